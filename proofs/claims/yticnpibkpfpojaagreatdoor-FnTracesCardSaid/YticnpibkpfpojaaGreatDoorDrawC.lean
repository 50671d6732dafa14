import Derived.Test.YticnpibkpfpojaaGreatDoorJDrK
/- A drawn bell: what the drawing function leaves, for every source. -/
namespace Go.Proofs.YticnpibkpfpojaaGreatDoor
set_option linter.unusedVariables false
set_option linter.unusedSimpArgs false
open Go.RowKit

set_option maxRecDepth 20000 in
set_option maxHeartbeats 8000000 in
theorem l18DrawOne_calls (b m : Nat) (B : Option Addr) (q d : Nat) (g : Nat → MeltV) (w : World) (h : Src w b m) (hm : m ≤ 10000000) (hM : MeltsD w B q d g) :
    Calls Tryz.prog 15 #[.pointer (some ⟨b, 0, none⟩), .slice B q d] w fun e w' => ∃ s no ma fe k ss ms G c, e = .returned (.agg #[.string s, .int .i64 no, .int .i64 ma, .int .i64 fe, .slice (some ⟨G, 0, none⟩) k c]) ∧ SmallB ⟨s, no, ma, fe, k, ss, ms⟩ ∧ w.heap.size ≤ G ∧ ShareOwnC w' k ss ms G c ∧ Src w' b (m + 80) ∧ Only b w w' := by
  obtain ⟨i0, hi, hz0, hz1, hz2⟩ := info_parts ShareI_info
  have hlt := h.lt
  have hq13 := hM.2.1
  have HM := Lib.hid hM
  have HSW := Lib.hid h
  clear hM
  go_enter Tryz.func15, Tryz.ntmps15
  go_wp2_with fail
  go_at_call 42
  refine (text_calls (fun s => decide (s.size ≤ 2)) _ _ _ _ _ _ _ _ (by exact (h.alloc _).alloc _) (by omega) (by exact Blk.new2 _ _ _ _) (by omega) (by decide +kernel) (by rfl) (by omega) (by omega)).mono ?_
  rintro e w1 ⟨s, hsn, rfl, hs1, ho1⟩
  have hss : s.size ≤ 2 := of_decide_eq_true hsn
  have hz1' := ho1.size
  simp at hz1'
  have R1 := Lib.hid (ho1.blk (show w.heap.size ≠ b by omega) ((Blk.new w 28 #[.string ⟨#[]⟩, .int .i64 0, .int .i64 0, .int .i64 0, .slice none 0 0]).alloc _))
  have O1 := Lib.hid ((((Only.refl b w).alloc _).alloc _).trans ho1)
  clear hsn ho1 h
  go_wp2_with fail
  go_at_call 40
  refine (pick_calls _ _ _ _ hs1 (by omega) (by omega)).mono ?_
  rintro e w2 ⟨p, ⟨p0, p1⟩, rfl, hs2, ho2⟩
  have p2 : p ≤ 29 := by omega
  have hz2' := ho2.size
  have R2 := Lib.hid (ho2.blk (show w.heap.size ≠ b by omega) R1.out)
  have O2 := Lib.hid (O1.out.trans ho2)
  have S2 := Lib.hid hs2
  clear p1 ho2 hs1 hs2 R1 O1
  go_wp2_with fail
  obtain ⟨no, hno⟩ : ∃ no, no = 48 + p := ⟨_, rfl⟩
  rw [← hno]
  clear hno
  go_loopw [6] (fun i wr => ∃ (k cnt : Nat) (v : Value) (ss : Nat → ByteArray) (ms : Nat → Int), k ≤ q ∧ i = .int .i64 k ∧ cnt ≤ 4 ∧ Hid (TRp wr (w2.heap.size + 1) w2.heap.size cnt b (m + 4 + 4 * k) v (shW ss ms cnt) #[.string s, .int .i64 no, .int .i64 0, .int .i64 0, v]) ∧ Hid ((∀ i, i < cnt → (ss i).size ≤ maxLen) ∧ ∀ i, i < cnt → 1 ≤ ms i) ∧ Hid (Blk wr w.heap.size 28 #[.string ⟨#[]⟩, .int .i64 0, .int .i64 0, .int .i64 0, .slice none 0 0]) ∧ Hid (Only b w wr)) (fun i _ => q - (intOf i).toNat)
  case atStart => exact ⟨0, 0, .slice none 0 0, fun _ => ⟨#[]⟩, fun _ => 0, by omega, rfl, by omega, Lib.hid ⟨own_nil _ _ _ _, Blk.new _ _ _, (S2.out.alloc _).mono (by omega)⟩, Lib.hid ⟨fun i hi => by omega, fun i hi => by omega⟩, Lib.hid (R2.out.alloc _), Lib.hid (O2.out.alloc _)⟩
  case round =>
    clear R2 O2 S2
    obtain ⟨k, cnt, v, ss, ms, hk, rfl, hck, htr, hle, hR, ho⟩ := hrel
    obtain ⟨AV, cv, hv⟩ := own_slice htr.out.1
    subst hv
    have hxc := (htr.out.2.1.cell 4).trans rfl
    have hxf := htr.out.2.1.frozen
    have hgz := htr.out.2.1.lt
    by_cases hlt2 : k < q
    · by_cases hc4 : cnt < 4
      · obtain ⟨gM, oM, arr, rfl, hbM, hxM⟩ := HM.out.2.2.1 (by omega)
        have hneM : gM ≠ b := HSW.out.not hbM (by decide)
        have hzM := hbM.lt
        obtain ⟨AM, cM, h0, h1, h2, -⟩ := hxM k hlt2
        obtain ⟨y, hy⟩ : ∃ y, y = (g k).id := ⟨_, rfl⟩
        obtain ⟨z, hz⟩ : ∃ z, z = (g k).ma := ⟨_, rfl⟩
        rw [← hy] at h0
        rw [← hz] at h2
        have hys := Lib.hid (show y.size ≤ maxLen from hy ▸ (HM.out.2.2.2 k hlt2).1)
        have C0 := Lib.hid (((ho.out.blk hneM hbM).cell (oM + k * 3)).trans h0)
        have C2 := Lib.hid (((ho.out.blk hneM hbM).cell (oM + k * 3 + 2)).trans h2)
        clear hbM hxM h0 h1 h2 hy hz
        go_wp2_with fail
        go_at_call 43
        refine (one_calls _ _ _ _ htr.out.2.2 (by omega) (by omega)).mono ?_
        rintro e w3 ⟨t, rfl, hs3, ho3⟩
        have TR3 := Lib.hid (htr.out.only ho3 (show w2.heap.size ≠ b by omega) (by omega) hs3)
        have R3 := Lib.hid (ho3.blk (show w.heap.size ≠ b by omega) hR.out)
        have O3 := Lib.hid (ho.out.trans ho3)
        have CI0 := Lib.hid (ho3.keep hneM C0.out)
        have CI2 := Lib.hid (ho3.keep hneM C2.out)
        have hgz3 := TR3.out.2.1.lt
        clear hs3 ho3 htr hR ho C0 C2 hxc hxf hgz
        cases t
        · clear CI0 CI2
          go_wp2
          go_roundw
          case rel => exact ⟨k + 1, cnt, _, ss, ms, by omega, by go_num, by omega, Lib.hid ⟨TR3.out.1, TR3.out.2.1, TR3.out.2.2.mono (by omega)⟩, hle, R3, O3⟩
          case measure => simp [intOf]; omega
        · have HLT := Lib.hid TR3.out.1.lt
          obtain ⟨v, hv⟩ : ∃ v, v = Value.slice AV cnt cv := ⟨_, rfl⟩
          rw [← hv] at TR3 HLT
          clear hv
          go_wp2_with fail
          refine wp_gen (fun W0 hW0 => ?_)
          have s0_ : Only b w W0 := by rw [hW0]; exact O3.out
          have s1_ : W0.cell? ⟨gM, oM + k * 3, none⟩ = some (.string y) := by rw [hW0]; exact CI0.out
          have s2_ : W0.cell? ⟨gM, oM + k * 3 + 2, none⟩ = some (.int .i64 z) := by rw [hW0]; exact CI2.out
          have s3_ : w2.heap.size < W0.heap.size := by rw [hW0]; exact hgz3
          have s4_ : Blk W0 w.heap.size 28 #[.string ⟨#[]⟩, .int .i64 0, .int .i64 0, .int .i64 0, .slice none 0 0] := by rw [hW0]; exact R3.out
          have TR := Lib.hid (show TRp W0 (w2.heap.size + 1) w2.heap.size cnt b (m + 4 + 4 * k + 2) v (shW ss ms cnt) #[.string s, .int .i64 no, .int .i64 0, .int .i64 0, v] from by rw [hW0]; exact TR3.out)
          have hgw : w2.heap.size < W0.heap.size := (by rw [hW0]; exact hgz3)
          have o1 : W0.cell? ⟨w2.heap.size, 4, none⟩ = some v := (TR.out.2.1.cell 4).trans rfl
          clear hW0
          refine wp_region_held_drew (S := fun w' => Only b w w' ∧ w'.cell? ⟨gM, oM + k * 3, none⟩ = some (.string y) ∧ w'.cell? ⟨gM, oM + k * 3 + 2, none⟩ = some (.int .i64 z) ∧ w2.heap.size < w'.heap.size ∧ Blk w' w.heap.size 28 #[.string ⟨#[]⟩, .int .i64 0, .int .i64 0, .int .i64 0, .slice none 0 0]) (by kernel_rfl) ?_ (fun hHeld => ?_)
          · exact ⟨s0_.drew, s1_, s2_, s3_, s4_⟩
          clear s0_ s1_ s2_ s3_ s4_
          refine take_yes (i := 0) (d := 30) (v := ?_) _ rfl rfl (by kernel_rfl) (by kernel_rfl) (by kernel_rfl) (fun _ _ _ _ h => h) (by rfl) ?_ (by assumption) ?_
          rotate_left 1
          · ((intro w hSw; (try dsimp only at hSw); go_simp) <;> (try with_reducible rfl))
          (try simp only [Act.put, List.setIfInBounds_toArray, List.set_cons_zero, List.set_cons_succ])
          refine take_yes (i := 2) (d := 32) (v := ?_) _ rfl rfl (by kernel_rfl) (by kernel_rfl) (by kernel_rfl) (fun _ _ _ _ h => h) (by rfl) ?_ (by assumption) ?_
          rotate_left 1
          · ((intro w hSw; (try dsimp only at hSw); go_simp) <;> (try with_reducible rfl))
          (try simp only [Act.put, List.setIfInBounds_toArray, List.set_cons_zero, List.set_cons_succ])
          refine take_yes (i := 3) (d := 33) (v := ?_) _ rfl rfl (by kernel_rfl) (by kernel_rfl) (by kernel_rfl) (fun _ _ _ _ h => h) (by rfl) ?_ (by assumption) ?_
          rotate_left 1
          · ((intro w hSw; (try dsimp only at hSw); go_simp) <;> (try with_reducible rfl))
          (try simp only [Act.put, List.setIfInBounds_toArray, List.set_cons_zero, List.set_cons_succ])
          refine take_yes (i := 4) (d := 34) (v := ?_) _ rfl rfl (by kernel_rfl) (by kernel_rfl) (by kernel_rfl) (fun _ _ _ _ h => h) (by rfl) ?_ (by assumption) ?_
          rotate_left 1
          · ((intro w hSw; (try dsimp only at hSw); go_simp) <;> (try with_reducible rfl))
          (try simp only [Act.put, List.setIfInBounds_toArray, List.set_cons_zero, List.set_cons_succ])
          refine take_yes (i := 5) (d := 35) (v := ?_) _ rfl rfl (by kernel_rfl) (by kernel_rfl) (by kernel_rfl) (fun _ _ _ _ h => h) (by rfl) ?_ (by assumption) ?_
          rotate_left 1
          · ((intro w hSw; (try dsimp only at hSw); go_simp) <;> (try with_reducible rfl))
          (try simp only [Act.put, List.setIfInBounds_toArray, List.set_cons_zero, List.set_cons_succ])
          refine take_yes (i := 6) (d := 36) (v := ?_) _ rfl rfl (by kernel_rfl) (by kernel_rfl) (by kernel_rfl) (fun _ _ _ _ h => h) (by rfl) ?_ (by assumption) ?_
          rotate_left 1
          · ((intro w hSw; (try dsimp only at hSw); go_simp) <;> (try with_reducible rfl))
          (try simp only [Act.put, List.setIfInBounds_toArray, List.set_cons_zero, List.set_cons_succ])
          refine take_yes (i := 7) (d := 37) (v := ?_) _ rfl rfl (by kernel_rfl) (by kernel_rfl) (by kernel_rfl) (fun _ _ _ _ h => h) (by rfl) ?_ (by assumption) ?_
          rotate_left 1
          · ((intro w hSw; (try dsimp only at hSw); go_simp) <;> (try with_reducible rfl))
          (try simp only [Act.put, List.setIfInBounds_toArray, List.set_cons_zero, List.set_cons_succ])
          refine take_yes (i := 8) (d := 38) (v := ?_) _ rfl rfl (by kernel_rfl) (by kernel_rfl) (by kernel_rfl) (fun _ _ _ _ h => h) (by rfl) ?_ (by assumption) ?_
          rotate_left 1
          · ((intro w hSw; (try dsimp only at hSw); go_simp) <;> (try with_reducible rfl))
          (try simp only [Act.put, List.setIfInBounds_toArray, List.set_cons_zero, List.set_cons_succ])
          refine take_yes (i := 9) (d := 39) (v := ?_) _ rfl rfl (by kernel_rfl) (by kernel_rfl) (by kernel_rfl) (fun _ _ _ _ h => h) (by rfl) ?_ (by assumption) ?_
          rotate_left 1
          · ((intro w hSw; (try dsimp only at hSw); go_simp) <;> (try with_reducible rfl))
          (try simp only [Act.put, List.setIfInBounds_toArray, List.set_cons_zero, List.set_cons_succ])
          refine take_yes (i := 10) (d := 40) (v := ?_) _ rfl rfl (by kernel_rfl) (by kernel_rfl) (by kernel_rfl) (fun _ _ _ _ h => h) (by rfl) ?_ (by assumption) ?_
          rotate_left 1
          · ((intro w hSw; (try dsimp only at hSw); go_simp) <;> (try with_reducible rfl))
          (try simp only [Act.put, List.setIfInBounds_toArray, List.set_cons_zero, List.set_cons_succ])
          refine take_yes (i := 11) (d := 41) (v := ?_) _ rfl rfl (by kernel_rfl) (by kernel_rfl) (by kernel_rfl) (fun _ _ _ _ h => h) (by rfl) ?_ (by assumption) ?_
          rotate_left 1
          · ((intro w hSw; (try dsimp only at hSw); go_simp) <;> (try with_reducible rfl))
          (try simp only [Act.put, List.setIfInBounds_toArray, List.set_cons_zero, List.set_cons_succ])
          refine take_yes (i := 12) (d := 42) (v := ?_) _ rfl rfl (by kernel_rfl) (by kernel_rfl) (by kernel_rfl) (fun _ _ _ _ h => h) (by rfl) ?_ (by assumption) ?_
          rotate_left 1
          · ((intro w hSw; (try dsimp only at hSw); go_simp) <;> (try with_reducible rfl))
          (try simp only [Act.put, List.setIfInBounds_toArray, List.set_cons_zero, List.set_cons_succ])
          refine wpAnyH_ready (rs := [1, 13]) (by kernel_rfl) (by simp) ?_; refine AllReadyH.cons rfl (fun K hK => ?_) (AllReadyH.cons rfl (fun K hK => ?_) AllReadyH.nil)
          · go_simp; refine hK.out _ _ (by assumption) (fun hHeld2 => ?_); clear hK K hHeld; have hHeld := hHeld2; clear hHeld2; (try simp only [Act.put, List.setIfInBounds_toArray, List.set_cons_zero, List.set_cons_succ])
            (refine wpAnyH_ready (rs := [13]) (by kernel_rfl) (by simp) ?_; refine AllReadyH.cons rfl (fun K hK => ?_) AllReadyH.nil; go_simp; refine hK.out _ _ (by obtain ⟨x0_, x1_, x2_, x3_, x4_⟩ := hHeld; exact ⟨x0_.trans (only_of ((Below.refl _ _).alloc (Nat.le_refl _) _)), cell_keep ((Below.refl _ _).alloc (Nat.le_refl _) _) x1_, cell_keep ((Below.refl _ _).alloc (Nat.le_refl _) _) x2_, Nat.lt_of_lt_of_le x3_ ((Below.refl _ _).alloc (Nat.le_refl _) _).size, x4_.keep ((Below.refl _ _).alloc (Nat.le_refl _) _)⟩) (fun hHeld2 => ?_); clear hK K; have hOld := hHeld; clear hHeld; have hHeld := hHeld2; clear hHeld2; (first | have TR2 := Lib.hid (TR.out.al hHeld) | have TR2 := Lib.hid (TR.out.alD hHeld) | have TR2 := Lib.hid (TR.out.alDD hHeld)); clear TR o1; have TR := TR2; clear TR2; have o1 := (TR.out.2.1.cell 4).trans rfl; (try simp only [Act.put, List.setIfInBounds_toArray, List.set_cons_zero, List.set_cons_succ]))
            (refine wpAnyH_ready (rs := [14]) (by kernel_rfl) (by simp) ?_; refine AllReadyH.cons rfl (fun K hK => ?_) AllReadyH.nil; go_simp; go_at_call 41; refine (among_calls (okI 1 20) b (m + 4 + 4 * k + 2) _ _ _ _ _ _ (by exact TR.out.2.2) (by omega) (by first | with_reducible exact Blk.new _ _ _ | exact (Blk.new _ _ _).drew) (by omega) (by rfl) (by rfl) (by omega) (by omega)).mono ?_; rintro e wd ⟨t, ht, rfl, hs2, hb⟩; obtain ⟨t0, t1⟩ := okI_iff.1 ht; have tne : ¬ t = 0 := (by omega); clear ht; refine hK.out _ _ (by obtain ⟨x0_, x1_, x2_, x3_, x4_⟩ := hHeld; exact ⟨x0_.trans hb, hb.keep hneM x1_, hb.keep hneM x2_, Nat.lt_of_lt_of_le x3_ hb.size, hb.blk (show w.heap.size ≠ b by omega) x4_⟩) (fun hHeld2 => ?_); (first | have TR2 := Lib.hid (TR.out.only hb (by omega) (by omega) hs2) | have TR2 := Lib.hid (TR.out.only hb.undrew (by omega) (by omega) hs2) | have TR2 := Lib.hid (TR.out.only hb.undrew.undrew (by omega) (by omega) hs2)); clear TR o1; have TR := TR2; clear TR2; have o1 := (TR.out.2.1.cell 4).trans rfl; clear hK K hHeld hb; have hHeld := hHeld2; clear hHeld2; (try simp only [Act.put, List.setIfInBounds_toArray, List.set_cons_zero, List.set_cons_succ]))
            refine take_yes (i := 15) (d := 45) (v := ?_) _ rfl rfl (by kernel_rfl) (by kernel_rfl) (by kernel_rfl) (fun _ _ _ _ h => h) (by rfl) ?_ (by assumption) ?_
            rotate_left 1
            · ((intro w hSw; (try dsimp only at hSw); go_simp) <;> (try with_reducible rfl))
            (try simp only [Act.put, List.setIfInBounds_toArray, List.set_cons_zero, List.set_cons_succ])
            (refine wpAnyH_ready (rs := [16]) (by kernel_rfl) (by simp) ?_; refine AllReadyH.cons rfl (fun K hK => ?_) AllReadyH.nil; go_simp; go_at_call 44; refine (max_calls _ _ _).mono ?_; rintro e wd ⟨rfl, rfl⟩; refine hK.out _ _ (by assumption) (fun hHeld2 => ?_); clear hK K hHeld; have hHeld := hHeld2; clear hHeld2; (try simp only [Act.put, List.setIfInBounds_toArray, List.set_cons_zero, List.set_cons_succ]))
            refine take_yes (i := 17) (d := 47) (v := ?_) _ rfl rfl (by kernel_rfl) (by kernel_rfl) (by kernel_rfl) (fun _ _ _ _ h => h) (by rfl) ?_ (by assumption) ?_
            rotate_left 1
            · ((intro w hSw; (try dsimp only at hSw); go_simp) <;> (try with_reducible rfl))
            (try simp only [Act.put, List.setIfInBounds_toArray, List.set_cons_zero, List.set_cons_succ])
            (refine wpAnyH_ready (rs := [18]) (by kernel_rfl) (by simp) ?_; refine AllReadyH.cons rfl (fun K hK => ?_) AllReadyH.nil; go_simp; refine hK.out _ _ (by obtain ⟨x0_, x1_, x2_, x3_, x4_⟩ := hHeld; exact ⟨x0_.trans (only_of ((Below.refl _ _).alloc (Nat.le_refl _) _)), cell_keep ((Below.refl _ _).alloc (Nat.le_refl _) _) x1_, cell_keep ((Below.refl _ _).alloc (Nat.le_refl _) _) x2_, Nat.lt_of_lt_of_le x3_ ((Below.refl _ _).alloc (Nat.le_refl _) _).size, x4_.keep ((Below.refl _ _).alloc (Nat.le_refl _) _)⟩) (fun hHeld2 => ?_); clear hK K; have hOld := hHeld; clear hHeld; have hHeld := hHeld2; clear hHeld2; (first | have TR2 := Lib.hid (TR.out.al hHeld) | have TR2 := Lib.hid (TR.out.alD hHeld) | have TR2 := Lib.hid (TR.out.alDD hHeld)); clear TR o1; have TR := TR2; clear TR2; have o1 := (TR.out.2.1.cell 4).trans rfl; (try simp only [Act.put, List.setIfInBounds_toArray, List.set_cons_zero, List.set_cons_succ]))
            (refine wpAnyH_ready (rs := [19]) (by kernel_rfl) (by simp) ?_; refine AllReadyH.cons rfl (fun K hK => ?_) AllReadyH.nil; refine step_append_own _ rfl (.tmp 31) (.tmp 48) _ rfl (w2.heap.size + 1) 41 i0 (.agg #[.string ⟨#[]⟩, .int .i64 0]) 2 24 Tryz.underlying26 hi hz0 hz1 hz2 rfl (by decide) _ _ _ rfl (TR.out.1) ⟨_, 0, none⟩ 1 1 [.string y, .int .i64 (max 1 (IntKind.i64.wrap (z.tdiv t)))] rfl rfl (fun j u hj => by match j, hj with | 0, hj => simp at hj; subst hj; simp [Addr.add] | 1, hj => simp at hj; subst hj; simp [Addr.add]) (fun u hu => by simp at hu; rcases hu with rfl | rfl <;> rfl) (by unfold maxLen; omega) (by omega) (by have := hHeld.2.2.2.1; omega) ?_; intro v_ wa_ hown_ hgrow_ hat_; obtain ⟨g_, cap_, cur_, rfl, -⟩ := own_blk hown_ (by omega); have HB2 := Lib.hid (show Blk wa_ w2.heap.size 28 #[.string s, .int .i64 no, .int .i64 0, .int .i64 0, v] from (by first | exact TR.out.2.1.grow hgrow_ (fun e => absurd (HLT.out _ e).1 (by omega)) | exact TR.out.2.1.grow (gb_undrew hgrow_) (fun e => absurd (HLT.out _ e).1 (by omega)) | exact TR.out.2.1.grow (gb_undrew (gb_undrew hgrow_)) (fun e => absurd (HLT.out _ e).1 (by omega)))); have o3 : wa_.cell? ⟨w2.heap.size, 4, none⟩ = some v := (HB2.out.cell 4).trans rfl; have f3 := HB2.out.frozen; have HS2 := Lib.hid (show Src wa_ b (m + 4 + 4 * k + 2 + 2) from by first | exact TR.out.2.2.grow hgrow_ (fun k hk => by have := (HLT.out k hk).1; omega) | exact TR.out.2.2.grow (gb_undrew hgrow_) (fun k hk => by have := (HLT.out k hk).1; omega) | exact TR.out.2.2.grow (gb_undrew (gb_undrew hgrow_)) (fun k hk => by have := (HLT.out k hk).1; omega)); refine hK.out _ _ (by obtain ⟨x0_, x1_, x2_, x3_, x4_⟩ := hHeld; exact ⟨x0_.grow hgrow_ (fun k hk => by have := (HLT.out k hk).1; omega), hgrow_.cell x1_ (fun e => absurd (HLT.out _ e.symm).1 (by (try dsimp only); omega)), hgrow_.cell x2_ (fun e => absurd (HLT.out _ e.symm).1 (by (try dsimp only); omega)), Nat.lt_of_lt_of_le x3_ hgrow_.size, x4_.grow hgrow_ (fun e => absurd (HLT.out _ e).1 (by omega))⟩) (fun hHeld2 => ?_); clear hK K hHeld; (try clear hOld); have hHeld := hHeld2; clear hHeld2; (try simp only [Act.put, List.setIfInBounds_toArray, List.set_cons_zero, List.set_cons_succ]))
            refine take_yes (i := 20) (d := 50) (v := ?_) _ rfl rfl (by kernel_rfl) (by kernel_rfl) (by kernel_rfl) (fun _ _ _ _ h => h) (by rfl) ?_ (by assumption) ?_
            rotate_left 1
            · ((intro w hSw; (try dsimp only at hSw); go_simp) <;> (try with_reducible rfl))
            (try simp only [Act.put, List.setIfInBounds_toArray, List.set_cons_zero, List.set_cons_succ])
            (refine wpAnyH_ready (rs := [21]) (by kernel_rfl) (by simp) ?_; refine AllReadyH.cons rfl (fun K hK => ?_) AllReadyH.nil; go_simp; refine hK.out _ _ (by obtain ⟨x0_, x1_, x2_, x3_, x4_⟩ := hHeld; exact ⟨x0_.setNew (by omega) _ (.slice (some ⟨g_, 0, none⟩) (cnt + 1) cap_), cellG x1_ (by omega), cellG x2_ (by omega), by simpa using x3_, x4_.far (p := ⟨w2.heap.size, 4, none⟩) (by (try dsimp only); omega) (.slice (some ⟨g_, 0, none⟩) (cnt + 1) cap_)⟩) (fun hHeld2 => ?_); clear hK K hHeld; (try clear hOld); have hHeld := hHeld2; clear hHeld2; (try simp only [Act.put, List.setIfInBounds_toArray, List.set_cons_zero, List.set_cons_succ]))
            refine wpAnyH_done (by kernel_rfl) ?_ _
            obtain ⟨z0, z1, z2, z3, z4⟩ := hHeld
            have HOWN := Lib.hid (own_far2 (p := ⟨w2.heap.size, 4, none⟩) (u := (.slice (some ⟨g_, 0, none⟩) (cnt + 1) cap_)) hown_ (by (try dsimp only); omega))
            have HB3 := Lib.hid (Blk.set_ HB2.out 4 (.slice (some ⟨g_, 0, none⟩) (cnt + 1) cap_))
            have HS3 := Lib.hid (HS2.out.far (show b < w2.heap.size by omega) 4 (.slice (some ⟨g_, 0, none⟩) (cnt + 1) cap_))
            rw [shW_upd] at HOWN
            clear hown_ hgrow_ hat_ HB2 o3 f3 HS2 TR o1
            go_wp2
            go_roundw
            case rel => exact ⟨k + 1, cnt + 1, (.slice (some ⟨g_, 0, none⟩) (cnt + 1) cap_), updS ss cnt y, updI ms cnt (max 1 (IntKind.i64.wrap (z.tdiv t))), by omega, by go_num, by omega, Lib.hid ⟨HOWN.out, HB3.out, HS3.out.mono (by omega)⟩, Lib.hid ⟨updS_all (C := fun s => s.size ≤ maxLen) hle.out.1 hys.out, updI_all (C := fun i => 1 ≤ i) hle.out.2 (by omega)⟩, Lib.hid z4, Lib.hid z0⟩
            case measure => simp [intOf]; omega
          · go_simp; refine hK.out _ _ (by obtain ⟨x0_, x1_, x2_, x3_, x4_⟩ := hHeld; exact ⟨x0_.trans (only_of ((Below.refl _ _).alloc (Nat.le_refl _) _)), cell_keep ((Below.refl _ _).alloc (Nat.le_refl _) _) x1_, cell_keep ((Below.refl _ _).alloc (Nat.le_refl _) _) x2_, Nat.lt_of_lt_of_le x3_ ((Below.refl _ _).alloc (Nat.le_refl _) _).size, x4_.keep ((Below.refl _ _).alloc (Nat.le_refl _) _)⟩) (fun hHeld2 => ?_); clear hK K; have hOld := hHeld; clear hHeld; have hHeld := hHeld2; clear hHeld2; (first | have TR2 := Lib.hid (TR.out.al hHeld) | have TR2 := Lib.hid (TR.out.alD hHeld) | have TR2 := Lib.hid (TR.out.alDD hHeld)); clear TR o1; have TR := TR2; clear TR2; have o1 := (TR.out.2.1.cell 4).trans rfl; (try simp only [Act.put, List.setIfInBounds_toArray, List.set_cons_zero, List.set_cons_succ])
            refine wpAnyH_ready (rs := [1, 14]) (by kernel_rfl) (by simp) ?_; refine AllReadyH.cons rfl (fun K hK => ?_) (AllReadyH.cons rfl (fun K hK => ?_) AllReadyH.nil)
            · go_simp; refine hK.out _ _ (by assumption) (fun hHeld2 => ?_); clear hK K hHeld; have hHeld := hHeld2; clear hHeld2; (try simp only [Act.put, List.setIfInBounds_toArray, List.set_cons_zero, List.set_cons_succ])
              (refine wpAnyH_ready (rs := [14]) (by kernel_rfl) (by simp) ?_; refine AllReadyH.cons rfl (fun K hK => ?_) AllReadyH.nil; go_simp; go_at_call 41; refine (among_calls (okI 1 20) b (m + 4 + 4 * k + 2) _ _ _ _ _ _ (by exact TR.out.2.2) (by omega) (by first | with_reducible exact Blk.new _ _ _ | exact (Blk.new _ _ _).drew) (by omega) (by rfl) (by rfl) (by omega) (by omega)).mono ?_; rintro e wd ⟨t, ht, rfl, hs2, hb⟩; obtain ⟨t0, t1⟩ := okI_iff.1 ht; have tne : ¬ t = 0 := (by omega); clear ht; refine hK.out _ _ (by obtain ⟨x0_, x1_, x2_, x3_, x4_⟩ := hHeld; exact ⟨x0_.trans hb, hb.keep hneM x1_, hb.keep hneM x2_, Nat.lt_of_lt_of_le x3_ hb.size, hb.blk (show w.heap.size ≠ b by omega) x4_⟩) (fun hHeld2 => ?_); (first | have TR2 := Lib.hid (TR.out.only hb (by omega) (by omega) hs2) | have TR2 := Lib.hid (TR.out.only hb.undrew (by omega) (by omega) hs2) | have TR2 := Lib.hid (TR.out.only hb.undrew.undrew (by omega) (by omega) hs2)); clear TR o1; have TR := TR2; clear TR2; have o1 := (TR.out.2.1.cell 4).trans rfl; clear hK K hHeld hb; have hHeld := hHeld2; clear hHeld2; (try simp only [Act.put, List.setIfInBounds_toArray, List.set_cons_zero, List.set_cons_succ]))
              refine take_yes (i := 15) (d := 45) (v := ?_) _ rfl rfl (by kernel_rfl) (by kernel_rfl) (by kernel_rfl) (fun _ _ _ _ h => h) (by rfl) ?_ (by assumption) ?_
              rotate_left 1
              · ((intro w hSw; (try dsimp only at hSw); go_simp) <;> (try with_reducible rfl))
              (try simp only [Act.put, List.setIfInBounds_toArray, List.set_cons_zero, List.set_cons_succ])
              (refine wpAnyH_ready (rs := [16]) (by kernel_rfl) (by simp) ?_; refine AllReadyH.cons rfl (fun K hK => ?_) AllReadyH.nil; go_simp; go_at_call 44; refine (max_calls _ _ _).mono ?_; rintro e wd ⟨rfl, rfl⟩; refine hK.out _ _ (by assumption) (fun hHeld2 => ?_); clear hK K hHeld; have hHeld := hHeld2; clear hHeld2; (try simp only [Act.put, List.setIfInBounds_toArray, List.set_cons_zero, List.set_cons_succ]))
              refine take_yes (i := 17) (d := 47) (v := ?_) _ rfl rfl (by kernel_rfl) (by kernel_rfl) (by kernel_rfl) (fun _ _ _ _ h => h) (by rfl) ?_ (by assumption) ?_
              rotate_left 1
              · ((intro w hSw; (try dsimp only at hSw); go_simp) <;> (try with_reducible rfl))
              (try simp only [Act.put, List.setIfInBounds_toArray, List.set_cons_zero, List.set_cons_succ])
              (refine wpAnyH_ready (rs := [18]) (by kernel_rfl) (by simp) ?_; refine AllReadyH.cons rfl (fun K hK => ?_) AllReadyH.nil; go_simp; refine hK.out _ _ (by obtain ⟨x0_, x1_, x2_, x3_, x4_⟩ := hHeld; exact ⟨x0_.trans (only_of ((Below.refl _ _).alloc (Nat.le_refl _) _)), cell_keep ((Below.refl _ _).alloc (Nat.le_refl _) _) x1_, cell_keep ((Below.refl _ _).alloc (Nat.le_refl _) _) x2_, Nat.lt_of_lt_of_le x3_ ((Below.refl _ _).alloc (Nat.le_refl _) _).size, x4_.keep ((Below.refl _ _).alloc (Nat.le_refl _) _)⟩) (fun hHeld2 => ?_); clear hK K; have hOld := hHeld; clear hHeld; have hHeld := hHeld2; clear hHeld2; (first | have TR2 := Lib.hid (TR.out.al hHeld) | have TR2 := Lib.hid (TR.out.alD hHeld) | have TR2 := Lib.hid (TR.out.alDD hHeld)); clear TR o1; have TR := TR2; clear TR2; have o1 := (TR.out.2.1.cell 4).trans rfl; (try simp only [Act.put, List.setIfInBounds_toArray, List.set_cons_zero, List.set_cons_succ]))
              (refine wpAnyH_ready (rs := [19]) (by kernel_rfl) (by simp) ?_; refine AllReadyH.cons rfl (fun K hK => ?_) AllReadyH.nil; refine step_append_own _ rfl (.tmp 31) (.tmp 48) _ rfl (w2.heap.size + 1) 41 i0 (.agg #[.string ⟨#[]⟩, .int .i64 0]) 2 24 Tryz.underlying26 hi hz0 hz1 hz2 rfl (by decide) _ _ _ rfl (TR.out.1) ⟨_, 0, none⟩ 1 1 [.string y, .int .i64 (max 1 (IntKind.i64.wrap (z.tdiv t)))] rfl rfl (fun j u hj => by match j, hj with | 0, hj => simp at hj; subst hj; simp [Addr.add] | 1, hj => simp at hj; subst hj; simp [Addr.add]) (fun u hu => by simp at hu; rcases hu with rfl | rfl <;> rfl) (by unfold maxLen; omega) (by omega) (by have := hHeld.2.2.2.1; omega) ?_; intro v_ wa_ hown_ hgrow_ hat_; obtain ⟨g_, cap_, cur_, rfl, -⟩ := own_blk hown_ (by omega); have HB2 := Lib.hid (show Blk wa_ w2.heap.size 28 #[.string s, .int .i64 no, .int .i64 0, .int .i64 0, v] from (by first | exact TR.out.2.1.grow hgrow_ (fun e => absurd (HLT.out _ e).1 (by omega)) | exact TR.out.2.1.grow (gb_undrew hgrow_) (fun e => absurd (HLT.out _ e).1 (by omega)) | exact TR.out.2.1.grow (gb_undrew (gb_undrew hgrow_)) (fun e => absurd (HLT.out _ e).1 (by omega)))); have o3 : wa_.cell? ⟨w2.heap.size, 4, none⟩ = some v := (HB2.out.cell 4).trans rfl; have f3 := HB2.out.frozen; have HS2 := Lib.hid (show Src wa_ b (m + 4 + 4 * k + 2 + 2) from by first | exact TR.out.2.2.grow hgrow_ (fun k hk => by have := (HLT.out k hk).1; omega) | exact TR.out.2.2.grow (gb_undrew hgrow_) (fun k hk => by have := (HLT.out k hk).1; omega) | exact TR.out.2.2.grow (gb_undrew (gb_undrew hgrow_)) (fun k hk => by have := (HLT.out k hk).1; omega)); refine hK.out _ _ (by obtain ⟨x0_, x1_, x2_, x3_, x4_⟩ := hHeld; exact ⟨x0_.grow hgrow_ (fun k hk => by have := (HLT.out k hk).1; omega), hgrow_.cell x1_ (fun e => absurd (HLT.out _ e.symm).1 (by (try dsimp only); omega)), hgrow_.cell x2_ (fun e => absurd (HLT.out _ e.symm).1 (by (try dsimp only); omega)), Nat.lt_of_lt_of_le x3_ hgrow_.size, x4_.grow hgrow_ (fun e => absurd (HLT.out _ e).1 (by omega))⟩) (fun hHeld2 => ?_); clear hK K hHeld; (try clear hOld); have hHeld := hHeld2; clear hHeld2; (try simp only [Act.put, List.setIfInBounds_toArray, List.set_cons_zero, List.set_cons_succ]))
              refine take_yes (i := 20) (d := 50) (v := ?_) _ rfl rfl (by kernel_rfl) (by kernel_rfl) (by kernel_rfl) (fun _ _ _ _ h => h) (by rfl) ?_ (by assumption) ?_
              rotate_left 1
              · ((intro w hSw; (try dsimp only at hSw); go_simp) <;> (try with_reducible rfl))
              (try simp only [Act.put, List.setIfInBounds_toArray, List.set_cons_zero, List.set_cons_succ])
              (refine wpAnyH_ready (rs := [21]) (by kernel_rfl) (by simp) ?_; refine AllReadyH.cons rfl (fun K hK => ?_) AllReadyH.nil; go_simp; refine hK.out _ _ (by obtain ⟨x0_, x1_, x2_, x3_, x4_⟩ := hHeld; exact ⟨x0_.setNew (by omega) _ (.slice (some ⟨g_, 0, none⟩) (cnt + 1) cap_), cellG x1_ (by omega), cellG x2_ (by omega), by simpa using x3_, x4_.far (p := ⟨w2.heap.size, 4, none⟩) (by (try dsimp only); omega) (.slice (some ⟨g_, 0, none⟩) (cnt + 1) cap_)⟩) (fun hHeld2 => ?_); clear hK K hHeld; (try clear hOld); have hHeld := hHeld2; clear hHeld2; (try simp only [Act.put, List.setIfInBounds_toArray, List.set_cons_zero, List.set_cons_succ]))
              refine wpAnyH_done (by kernel_rfl) ?_ _
              obtain ⟨z0, z1, z2, z3, z4⟩ := hHeld
              have HOWN := Lib.hid (own_far2 (p := ⟨w2.heap.size, 4, none⟩) (u := (.slice (some ⟨g_, 0, none⟩) (cnt + 1) cap_)) hown_ (by (try dsimp only); omega))
              have HB3 := Lib.hid (Blk.set_ HB2.out 4 (.slice (some ⟨g_, 0, none⟩) (cnt + 1) cap_))
              have HS3 := Lib.hid (HS2.out.far (show b < w2.heap.size by omega) 4 (.slice (some ⟨g_, 0, none⟩) (cnt + 1) cap_))
              rw [shW_upd] at HOWN
              clear hown_ hgrow_ hat_ HB2 o3 f3 HS2 TR o1
              go_wp2
              go_roundw
              case rel => exact ⟨k + 1, cnt + 1, (.slice (some ⟨g_, 0, none⟩) (cnt + 1) cap_), updS ss cnt y, updI ms cnt (max 1 (IntKind.i64.wrap (z.tdiv t))), by omega, by go_num, by omega, Lib.hid ⟨HOWN.out, HB3.out, HS3.out.mono (by omega)⟩, Lib.hid ⟨updS_all (C := fun s => s.size ≤ maxLen) hle.out.1 hys.out, updI_all (C := fun i => 1 ≤ i) hle.out.2 (by omega)⟩, Lib.hid z4, Lib.hid z0⟩
              case measure => simp [intOf]; omega
            · go_simp; go_at_call 41; refine (among_calls (okI 1 20) b (m + 4 + 4 * k + 2) _ _ _ _ _ _ (by exact TR.out.2.2) (by omega) (by first | with_reducible exact Blk.new _ _ _ | exact (Blk.new _ _ _).drew) (by omega) (by rfl) (by rfl) (by omega) (by omega)).mono ?_; rintro e wd ⟨t, ht, rfl, hs2, hb⟩; obtain ⟨t0, t1⟩ := okI_iff.1 ht; have tne : ¬ t = 0 := (by omega); clear ht; refine hK.out _ _ (by obtain ⟨x0_, x1_, x2_, x3_, x4_⟩ := hHeld; exact ⟨x0_.trans hb, hb.keep hneM x1_, hb.keep hneM x2_, Nat.lt_of_lt_of_le x3_ hb.size, hb.blk (show w.heap.size ≠ b by omega) x4_⟩) (fun hHeld2 => ?_); (first | have TR2 := Lib.hid (TR.out.only hb (by omega) (by omega) hs2) | have TR2 := Lib.hid (TR.out.only hb.undrew (by omega) (by omega) hs2) | have TR2 := Lib.hid (TR.out.only hb.undrew.undrew (by omega) (by omega) hs2)); clear TR o1; have TR := TR2; clear TR2; have o1 := (TR.out.2.1.cell 4).trans rfl; clear hK K hHeld hb; have hHeld := hHeld2; clear hHeld2; (try simp only [Act.put, List.setIfInBounds_toArray, List.set_cons_zero, List.set_cons_succ])
              refine take_yes (i := 15) (d := 45) (v := ?_) _ rfl rfl (by kernel_rfl) (by kernel_rfl) (by kernel_rfl) (fun _ _ _ _ h => h) (by rfl) ?_ (by assumption) ?_
              rotate_left 1
              · ((intro w hSw; (try dsimp only at hSw); go_simp) <;> (try with_reducible rfl))
              (try simp only [Act.put, List.setIfInBounds_toArray, List.set_cons_zero, List.set_cons_succ])
              refine wpAnyH_ready (rs := [1, 16]) (by kernel_rfl) (by simp) ?_; refine AllReadyH.cons rfl (fun K hK => ?_) (AllReadyH.cons rfl (fun K hK => ?_) AllReadyH.nil)
              · go_simp; refine hK.out _ _ (by assumption) (fun hHeld2 => ?_); clear hK K hHeld; have hHeld := hHeld2; clear hHeld2; (try simp only [Act.put, List.setIfInBounds_toArray, List.set_cons_zero, List.set_cons_succ])
                (refine wpAnyH_ready (rs := [16]) (by kernel_rfl) (by simp) ?_; refine AllReadyH.cons rfl (fun K hK => ?_) AllReadyH.nil; go_simp; go_at_call 44; refine (max_calls _ _ _).mono ?_; rintro e wd ⟨rfl, rfl⟩; refine hK.out _ _ (by assumption) (fun hHeld2 => ?_); clear hK K hHeld; have hHeld := hHeld2; clear hHeld2; (try simp only [Act.put, List.setIfInBounds_toArray, List.set_cons_zero, List.set_cons_succ]))
                refine take_yes (i := 17) (d := 47) (v := ?_) _ rfl rfl (by kernel_rfl) (by kernel_rfl) (by kernel_rfl) (fun _ _ _ _ h => h) (by rfl) ?_ (by assumption) ?_
                rotate_left 1
                · ((intro w hSw; (try dsimp only at hSw); go_simp) <;> (try with_reducible rfl))
                (try simp only [Act.put, List.setIfInBounds_toArray, List.set_cons_zero, List.set_cons_succ])
                (refine wpAnyH_ready (rs := [18]) (by kernel_rfl) (by simp) ?_; refine AllReadyH.cons rfl (fun K hK => ?_) AllReadyH.nil; go_simp; refine hK.out _ _ (by obtain ⟨x0_, x1_, x2_, x3_, x4_⟩ := hHeld; exact ⟨x0_.trans (only_of ((Below.refl _ _).alloc (Nat.le_refl _) _)), cell_keep ((Below.refl _ _).alloc (Nat.le_refl _) _) x1_, cell_keep ((Below.refl _ _).alloc (Nat.le_refl _) _) x2_, Nat.lt_of_lt_of_le x3_ ((Below.refl _ _).alloc (Nat.le_refl _) _).size, x4_.keep ((Below.refl _ _).alloc (Nat.le_refl _) _)⟩) (fun hHeld2 => ?_); clear hK K; have hOld := hHeld; clear hHeld; have hHeld := hHeld2; clear hHeld2; (first | have TR2 := Lib.hid (TR.out.al hHeld) | have TR2 := Lib.hid (TR.out.alD hHeld) | have TR2 := Lib.hid (TR.out.alDD hHeld)); clear TR o1; have TR := TR2; clear TR2; have o1 := (TR.out.2.1.cell 4).trans rfl; (try simp only [Act.put, List.setIfInBounds_toArray, List.set_cons_zero, List.set_cons_succ]))
                (refine wpAnyH_ready (rs := [19]) (by kernel_rfl) (by simp) ?_; refine AllReadyH.cons rfl (fun K hK => ?_) AllReadyH.nil; refine step_append_own _ rfl (.tmp 31) (.tmp 48) _ rfl (w2.heap.size + 1) 41 i0 (.agg #[.string ⟨#[]⟩, .int .i64 0]) 2 24 Tryz.underlying26 hi hz0 hz1 hz2 rfl (by decide) _ _ _ rfl (TR.out.1) ⟨_, 0, none⟩ 1 1 [.string y, .int .i64 (max 1 (IntKind.i64.wrap (z.tdiv t)))] rfl rfl (fun j u hj => by match j, hj with | 0, hj => simp at hj; subst hj; simp [Addr.add] | 1, hj => simp at hj; subst hj; simp [Addr.add]) (fun u hu => by simp at hu; rcases hu with rfl | rfl <;> rfl) (by unfold maxLen; omega) (by omega) (by have := hHeld.2.2.2.1; omega) ?_; intro v_ wa_ hown_ hgrow_ hat_; obtain ⟨g_, cap_, cur_, rfl, -⟩ := own_blk hown_ (by omega); have HB2 := Lib.hid (show Blk wa_ w2.heap.size 28 #[.string s, .int .i64 no, .int .i64 0, .int .i64 0, v] from (by first | exact TR.out.2.1.grow hgrow_ (fun e => absurd (HLT.out _ e).1 (by omega)) | exact TR.out.2.1.grow (gb_undrew hgrow_) (fun e => absurd (HLT.out _ e).1 (by omega)) | exact TR.out.2.1.grow (gb_undrew (gb_undrew hgrow_)) (fun e => absurd (HLT.out _ e).1 (by omega)))); have o3 : wa_.cell? ⟨w2.heap.size, 4, none⟩ = some v := (HB2.out.cell 4).trans rfl; have f3 := HB2.out.frozen; have HS2 := Lib.hid (show Src wa_ b (m + 4 + 4 * k + 2 + 2) from by first | exact TR.out.2.2.grow hgrow_ (fun k hk => by have := (HLT.out k hk).1; omega) | exact TR.out.2.2.grow (gb_undrew hgrow_) (fun k hk => by have := (HLT.out k hk).1; omega) | exact TR.out.2.2.grow (gb_undrew (gb_undrew hgrow_)) (fun k hk => by have := (HLT.out k hk).1; omega)); refine hK.out _ _ (by obtain ⟨x0_, x1_, x2_, x3_, x4_⟩ := hHeld; exact ⟨x0_.grow hgrow_ (fun k hk => by have := (HLT.out k hk).1; omega), hgrow_.cell x1_ (fun e => absurd (HLT.out _ e.symm).1 (by (try dsimp only); omega)), hgrow_.cell x2_ (fun e => absurd (HLT.out _ e.symm).1 (by (try dsimp only); omega)), Nat.lt_of_lt_of_le x3_ hgrow_.size, x4_.grow hgrow_ (fun e => absurd (HLT.out _ e).1 (by omega))⟩) (fun hHeld2 => ?_); clear hK K hHeld; (try clear hOld); have hHeld := hHeld2; clear hHeld2; (try simp only [Act.put, List.setIfInBounds_toArray, List.set_cons_zero, List.set_cons_succ]))
                refine take_yes (i := 20) (d := 50) (v := ?_) _ rfl rfl (by kernel_rfl) (by kernel_rfl) (by kernel_rfl) (fun _ _ _ _ h => h) (by rfl) ?_ (by assumption) ?_
                rotate_left 1
                · ((intro w hSw; (try dsimp only at hSw); go_simp) <;> (try with_reducible rfl))
                (try simp only [Act.put, List.setIfInBounds_toArray, List.set_cons_zero, List.set_cons_succ])
                (refine wpAnyH_ready (rs := [21]) (by kernel_rfl) (by simp) ?_; refine AllReadyH.cons rfl (fun K hK => ?_) AllReadyH.nil; go_simp; refine hK.out _ _ (by obtain ⟨x0_, x1_, x2_, x3_, x4_⟩ := hHeld; exact ⟨x0_.setNew (by omega) _ (.slice (some ⟨g_, 0, none⟩) (cnt + 1) cap_), cellG x1_ (by omega), cellG x2_ (by omega), by simpa using x3_, x4_.far (p := ⟨w2.heap.size, 4, none⟩) (by (try dsimp only); omega) (.slice (some ⟨g_, 0, none⟩) (cnt + 1) cap_)⟩) (fun hHeld2 => ?_); clear hK K hHeld; (try clear hOld); have hHeld := hHeld2; clear hHeld2; (try simp only [Act.put, List.setIfInBounds_toArray, List.set_cons_zero, List.set_cons_succ]))
                refine wpAnyH_done (by kernel_rfl) ?_ _
                obtain ⟨z0, z1, z2, z3, z4⟩ := hHeld
                have HOWN := Lib.hid (own_far2 (p := ⟨w2.heap.size, 4, none⟩) (u := (.slice (some ⟨g_, 0, none⟩) (cnt + 1) cap_)) hown_ (by (try dsimp only); omega))
                have HB3 := Lib.hid (Blk.set_ HB2.out 4 (.slice (some ⟨g_, 0, none⟩) (cnt + 1) cap_))
                have HS3 := Lib.hid (HS2.out.far (show b < w2.heap.size by omega) 4 (.slice (some ⟨g_, 0, none⟩) (cnt + 1) cap_))
                rw [shW_upd] at HOWN
                clear hown_ hgrow_ hat_ HB2 o3 f3 HS2 TR o1
                go_wp2
                go_roundw
                case rel => exact ⟨k + 1, cnt + 1, (.slice (some ⟨g_, 0, none⟩) (cnt + 1) cap_), updS ss cnt y, updI ms cnt (max 1 (IntKind.i64.wrap (z.tdiv t))), by omega, by go_num, by omega, Lib.hid ⟨HOWN.out, HB3.out, HS3.out.mono (by omega)⟩, Lib.hid ⟨updS_all (C := fun s => s.size ≤ maxLen) hle.out.1 hys.out, updI_all (C := fun i => 1 ≤ i) hle.out.2 (by omega)⟩, Lib.hid z4, Lib.hid z0⟩
                case measure => simp [intOf]; omega
              · go_simp; go_at_call 44; refine (max_calls _ _ _).mono ?_; rintro e wd ⟨rfl, rfl⟩; refine hK.out _ _ (by assumption) (fun hHeld2 => ?_); clear hK K hHeld; have hHeld := hHeld2; clear hHeld2; (try simp only [Act.put, List.setIfInBounds_toArray, List.set_cons_zero, List.set_cons_succ])
                refine take_yes (i := 17) (d := 47) (v := ?_) _ rfl rfl (by kernel_rfl) (by kernel_rfl) (by kernel_rfl) (fun _ _ _ _ h => h) (by rfl) ?_ (by assumption) ?_
                rotate_left 1
                · ((intro w hSw; (try dsimp only at hSw); go_simp) <;> (try with_reducible rfl))
                (try simp only [Act.put, List.setIfInBounds_toArray, List.set_cons_zero, List.set_cons_succ])
                refine wpAnyH_ready (rs := [1, 18]) (by kernel_rfl) (by simp) ?_; refine AllReadyH.cons rfl (fun K hK => ?_) (AllReadyH.cons rfl (fun K hK => ?_) AllReadyH.nil)
                · go_simp; refine hK.out _ _ (by assumption) (fun hHeld2 => ?_); clear hK K hHeld; have hHeld := hHeld2; clear hHeld2; (try simp only [Act.put, List.setIfInBounds_toArray, List.set_cons_zero, List.set_cons_succ])
                  (refine wpAnyH_ready (rs := [18]) (by kernel_rfl) (by simp) ?_; refine AllReadyH.cons rfl (fun K hK => ?_) AllReadyH.nil; go_simp; refine hK.out _ _ (by obtain ⟨x0_, x1_, x2_, x3_, x4_⟩ := hHeld; exact ⟨x0_.trans (only_of ((Below.refl _ _).alloc (Nat.le_refl _) _)), cell_keep ((Below.refl _ _).alloc (Nat.le_refl _) _) x1_, cell_keep ((Below.refl _ _).alloc (Nat.le_refl _) _) x2_, Nat.lt_of_lt_of_le x3_ ((Below.refl _ _).alloc (Nat.le_refl _) _).size, x4_.keep ((Below.refl _ _).alloc (Nat.le_refl _) _)⟩) (fun hHeld2 => ?_); clear hK K; have hOld := hHeld; clear hHeld; have hHeld := hHeld2; clear hHeld2; (first | have TR2 := Lib.hid (TR.out.al hHeld) | have TR2 := Lib.hid (TR.out.alD hHeld) | have TR2 := Lib.hid (TR.out.alDD hHeld)); clear TR o1; have TR := TR2; clear TR2; have o1 := (TR.out.2.1.cell 4).trans rfl; (try simp only [Act.put, List.setIfInBounds_toArray, List.set_cons_zero, List.set_cons_succ]))
                  (refine wpAnyH_ready (rs := [19]) (by kernel_rfl) (by simp) ?_; refine AllReadyH.cons rfl (fun K hK => ?_) AllReadyH.nil; refine step_append_own _ rfl (.tmp 31) (.tmp 48) _ rfl (w2.heap.size + 1) 41 i0 (.agg #[.string ⟨#[]⟩, .int .i64 0]) 2 24 Tryz.underlying26 hi hz0 hz1 hz2 rfl (by decide) _ _ _ rfl (TR.out.1) ⟨_, 0, none⟩ 1 1 [.string y, .int .i64 (max 1 (IntKind.i64.wrap (z.tdiv t)))] rfl rfl (fun j u hj => by match j, hj with | 0, hj => simp at hj; subst hj; simp [Addr.add] | 1, hj => simp at hj; subst hj; simp [Addr.add]) (fun u hu => by simp at hu; rcases hu with rfl | rfl <;> rfl) (by unfold maxLen; omega) (by omega) (by have := hHeld.2.2.2.1; omega) ?_; intro v_ wa_ hown_ hgrow_ hat_; obtain ⟨g_, cap_, cur_, rfl, -⟩ := own_blk hown_ (by omega); have HB2 := Lib.hid (show Blk wa_ w2.heap.size 28 #[.string s, .int .i64 no, .int .i64 0, .int .i64 0, v] from (by first | exact TR.out.2.1.grow hgrow_ (fun e => absurd (HLT.out _ e).1 (by omega)) | exact TR.out.2.1.grow (gb_undrew hgrow_) (fun e => absurd (HLT.out _ e).1 (by omega)) | exact TR.out.2.1.grow (gb_undrew (gb_undrew hgrow_)) (fun e => absurd (HLT.out _ e).1 (by omega)))); have o3 : wa_.cell? ⟨w2.heap.size, 4, none⟩ = some v := (HB2.out.cell 4).trans rfl; have f3 := HB2.out.frozen; have HS2 := Lib.hid (show Src wa_ b (m + 4 + 4 * k + 2 + 2) from by first | exact TR.out.2.2.grow hgrow_ (fun k hk => by have := (HLT.out k hk).1; omega) | exact TR.out.2.2.grow (gb_undrew hgrow_) (fun k hk => by have := (HLT.out k hk).1; omega) | exact TR.out.2.2.grow (gb_undrew (gb_undrew hgrow_)) (fun k hk => by have := (HLT.out k hk).1; omega)); refine hK.out _ _ (by obtain ⟨x0_, x1_, x2_, x3_, x4_⟩ := hHeld; exact ⟨x0_.grow hgrow_ (fun k hk => by have := (HLT.out k hk).1; omega), hgrow_.cell x1_ (fun e => absurd (HLT.out _ e.symm).1 (by (try dsimp only); omega)), hgrow_.cell x2_ (fun e => absurd (HLT.out _ e.symm).1 (by (try dsimp only); omega)), Nat.lt_of_lt_of_le x3_ hgrow_.size, x4_.grow hgrow_ (fun e => absurd (HLT.out _ e).1 (by omega))⟩) (fun hHeld2 => ?_); clear hK K hHeld; (try clear hOld); have hHeld := hHeld2; clear hHeld2; (try simp only [Act.put, List.setIfInBounds_toArray, List.set_cons_zero, List.set_cons_succ]))
                  refine take_yes (i := 20) (d := 50) (v := ?_) _ rfl rfl (by kernel_rfl) (by kernel_rfl) (by kernel_rfl) (fun _ _ _ _ h => h) (by rfl) ?_ (by assumption) ?_
                  rotate_left 1
                  · ((intro w hSw; (try dsimp only at hSw); go_simp) <;> (try with_reducible rfl))
                  (try simp only [Act.put, List.setIfInBounds_toArray, List.set_cons_zero, List.set_cons_succ])
                  (refine wpAnyH_ready (rs := [21]) (by kernel_rfl) (by simp) ?_; refine AllReadyH.cons rfl (fun K hK => ?_) AllReadyH.nil; go_simp; refine hK.out _ _ (by obtain ⟨x0_, x1_, x2_, x3_, x4_⟩ := hHeld; exact ⟨x0_.setNew (by omega) _ (.slice (some ⟨g_, 0, none⟩) (cnt + 1) cap_), cellG x1_ (by omega), cellG x2_ (by omega), by simpa using x3_, x4_.far (p := ⟨w2.heap.size, 4, none⟩) (by (try dsimp only); omega) (.slice (some ⟨g_, 0, none⟩) (cnt + 1) cap_)⟩) (fun hHeld2 => ?_); clear hK K hHeld; (try clear hOld); have hHeld := hHeld2; clear hHeld2; (try simp only [Act.put, List.setIfInBounds_toArray, List.set_cons_zero, List.set_cons_succ]))
                  refine wpAnyH_done (by kernel_rfl) ?_ _
                  obtain ⟨z0, z1, z2, z3, z4⟩ := hHeld
                  have HOWN := Lib.hid (own_far2 (p := ⟨w2.heap.size, 4, none⟩) (u := (.slice (some ⟨g_, 0, none⟩) (cnt + 1) cap_)) hown_ (by (try dsimp only); omega))
                  have HB3 := Lib.hid (Blk.set_ HB2.out 4 (.slice (some ⟨g_, 0, none⟩) (cnt + 1) cap_))
                  have HS3 := Lib.hid (HS2.out.far (show b < w2.heap.size by omega) 4 (.slice (some ⟨g_, 0, none⟩) (cnt + 1) cap_))
                  rw [shW_upd] at HOWN
                  clear hown_ hgrow_ hat_ HB2 o3 f3 HS2 TR o1
                  go_wp2
                  go_roundw
                  case rel => exact ⟨k + 1, cnt + 1, (.slice (some ⟨g_, 0, none⟩) (cnt + 1) cap_), updS ss cnt y, updI ms cnt (max 1 (IntKind.i64.wrap (z.tdiv t))), by omega, by go_num, by omega, Lib.hid ⟨HOWN.out, HB3.out, HS3.out.mono (by omega)⟩, Lib.hid ⟨updS_all (C := fun s => s.size ≤ maxLen) hle.out.1 hys.out, updI_all (C := fun i => 1 ≤ i) hle.out.2 (by omega)⟩, Lib.hid z4, Lib.hid z0⟩
                  case measure => simp [intOf]; omega
                · go_simp; refine hK.out _ _ (by obtain ⟨x0_, x1_, x2_, x3_, x4_⟩ := hHeld; exact ⟨x0_.trans (only_of ((Below.refl _ _).alloc (Nat.le_refl _) _)), cell_keep ((Below.refl _ _).alloc (Nat.le_refl _) _) x1_, cell_keep ((Below.refl _ _).alloc (Nat.le_refl _) _) x2_, Nat.lt_of_lt_of_le x3_ ((Below.refl _ _).alloc (Nat.le_refl _) _).size, x4_.keep ((Below.refl _ _).alloc (Nat.le_refl _) _)⟩) (fun hHeld2 => ?_); clear hK K; have hOld := hHeld; clear hHeld; have hHeld := hHeld2; clear hHeld2; (first | have TR2 := Lib.hid (TR.out.al hHeld) | have TR2 := Lib.hid (TR.out.alD hHeld) | have TR2 := Lib.hid (TR.out.alDD hHeld)); clear TR o1; have TR := TR2; clear TR2; have o1 := (TR.out.2.1.cell 4).trans rfl; (try simp only [Act.put, List.setIfInBounds_toArray, List.set_cons_zero, List.set_cons_succ])
                  (refine wpAnyH_ready (rs := [1]) (by kernel_rfl) (by simp) ?_; refine AllReadyH.cons rfl (fun K hK => ?_) AllReadyH.nil; go_simp; refine hK.out _ _ (by assumption) (fun hHeld2 => ?_); clear hK K hHeld; have hHeld := hHeld2; clear hHeld2; (try simp only [Act.put, List.setIfInBounds_toArray, List.set_cons_zero, List.set_cons_succ]))
                  (refine wpAnyH_ready (rs := [19]) (by kernel_rfl) (by simp) ?_; refine AllReadyH.cons rfl (fun K hK => ?_) AllReadyH.nil; refine step_append_own _ rfl (.tmp 31) (.tmp 48) _ rfl (w2.heap.size + 1) 41 i0 (.agg #[.string ⟨#[]⟩, .int .i64 0]) 2 24 Tryz.underlying26 hi hz0 hz1 hz2 rfl (by decide) _ _ _ rfl (TR.out.1) ⟨_, 0, none⟩ 1 1 [.string y, .int .i64 (max 1 (IntKind.i64.wrap (z.tdiv t)))] rfl rfl (fun j u hj => by match j, hj with | 0, hj => simp at hj; subst hj; simp [Addr.add] | 1, hj => simp at hj; subst hj; simp [Addr.add]) (fun u hu => by simp at hu; rcases hu with rfl | rfl <;> rfl) (by unfold maxLen; omega) (by omega) (by have := hHeld.2.2.2.1; omega) ?_; intro v_ wa_ hown_ hgrow_ hat_; obtain ⟨g_, cap_, cur_, rfl, -⟩ := own_blk hown_ (by omega); have HB2 := Lib.hid (show Blk wa_ w2.heap.size 28 #[.string s, .int .i64 no, .int .i64 0, .int .i64 0, v] from (by first | exact TR.out.2.1.grow hgrow_ (fun e => absurd (HLT.out _ e).1 (by omega)) | exact TR.out.2.1.grow (gb_undrew hgrow_) (fun e => absurd (HLT.out _ e).1 (by omega)) | exact TR.out.2.1.grow (gb_undrew (gb_undrew hgrow_)) (fun e => absurd (HLT.out _ e).1 (by omega)))); have o3 : wa_.cell? ⟨w2.heap.size, 4, none⟩ = some v := (HB2.out.cell 4).trans rfl; have f3 := HB2.out.frozen; have HS2 := Lib.hid (show Src wa_ b (m + 4 + 4 * k + 2 + 2) from by first | exact TR.out.2.2.grow hgrow_ (fun k hk => by have := (HLT.out k hk).1; omega) | exact TR.out.2.2.grow (gb_undrew hgrow_) (fun k hk => by have := (HLT.out k hk).1; omega) | exact TR.out.2.2.grow (gb_undrew (gb_undrew hgrow_)) (fun k hk => by have := (HLT.out k hk).1; omega)); refine hK.out _ _ (by obtain ⟨x0_, x1_, x2_, x3_, x4_⟩ := hHeld; exact ⟨x0_.grow hgrow_ (fun k hk => by have := (HLT.out k hk).1; omega), hgrow_.cell x1_ (fun e => absurd (HLT.out _ e.symm).1 (by (try dsimp only); omega)), hgrow_.cell x2_ (fun e => absurd (HLT.out _ e.symm).1 (by (try dsimp only); omega)), Nat.lt_of_lt_of_le x3_ hgrow_.size, x4_.grow hgrow_ (fun e => absurd (HLT.out _ e).1 (by omega))⟩) (fun hHeld2 => ?_); clear hK K hHeld; (try clear hOld); have hHeld := hHeld2; clear hHeld2; (try simp only [Act.put, List.setIfInBounds_toArray, List.set_cons_zero, List.set_cons_succ]))
                  refine take_yes (i := 20) (d := 50) (v := ?_) _ rfl rfl (by kernel_rfl) (by kernel_rfl) (by kernel_rfl) (fun _ _ _ _ h => h) (by rfl) ?_ (by assumption) ?_
                  rotate_left 1
                  · ((intro w hSw; (try dsimp only at hSw); go_simp) <;> (try with_reducible rfl))
                  (try simp only [Act.put, List.setIfInBounds_toArray, List.set_cons_zero, List.set_cons_succ])
                  (refine wpAnyH_ready (rs := [21]) (by kernel_rfl) (by simp) ?_; refine AllReadyH.cons rfl (fun K hK => ?_) AllReadyH.nil; go_simp; refine hK.out _ _ (by obtain ⟨x0_, x1_, x2_, x3_, x4_⟩ := hHeld; exact ⟨x0_.setNew (by omega) _ (.slice (some ⟨g_, 0, none⟩) (cnt + 1) cap_), cellG x1_ (by omega), cellG x2_ (by omega), by simpa using x3_, x4_.far (p := ⟨w2.heap.size, 4, none⟩) (by (try dsimp only); omega) (.slice (some ⟨g_, 0, none⟩) (cnt + 1) cap_)⟩) (fun hHeld2 => ?_); clear hK K hHeld; (try clear hOld); have hHeld := hHeld2; clear hHeld2; (try simp only [Act.put, List.setIfInBounds_toArray, List.set_cons_zero, List.set_cons_succ]))
                  refine wpAnyH_done (by kernel_rfl) ?_ _
                  obtain ⟨z0, z1, z2, z3, z4⟩ := hHeld
                  have HOWN := Lib.hid (own_far2 (p := ⟨w2.heap.size, 4, none⟩) (u := (.slice (some ⟨g_, 0, none⟩) (cnt + 1) cap_)) hown_ (by (try dsimp only); omega))
                  have HB3 := Lib.hid (Blk.set_ HB2.out 4 (.slice (some ⟨g_, 0, none⟩) (cnt + 1) cap_))
                  have HS3 := Lib.hid (HS2.out.far (show b < w2.heap.size by omega) 4 (.slice (some ⟨g_, 0, none⟩) (cnt + 1) cap_))
                  rw [shW_upd] at HOWN
                  clear hown_ hgrow_ hat_ HB2 o3 f3 HS2 TR o1
                  go_wp2
                  go_roundw
                  case rel => exact ⟨k + 1, cnt + 1, (.slice (some ⟨g_, 0, none⟩) (cnt + 1) cap_), updS ss cnt y, updI ms cnt (max 1 (IntKind.i64.wrap (z.tdiv t))), by omega, by go_num, by omega, Lib.hid ⟨HOWN.out, HB3.out, HS3.out.mono (by omega)⟩, Lib.hid ⟨updS_all (C := fun s => s.size ≤ maxLen) hle.out.1 hys.out, updI_all (C := fun i => 1 ≤ i) hle.out.2 (by omega)⟩, Lib.hid z4, Lib.hid z0⟩
                  case measure => simp [intOf]; omega
      · have hc5 : ¬ (cnt : Int) < 4 := by omega
        go_upto_if 54 with (fail)
        go_cut [] (fun wx => ∃ (G cap n2 : Nat) (s2 : Nat → ByteArray) (m2 : Nat → Int), 1 ≤ n2 ∧ n2 ≤ 4 ∧ w2.heap.size < G ∧ Hid (Blk wx w2.heap.size 28 #[.string s, .int .i64 no, .int .i64 0, .int .i64 0, .slice (some ⟨G, 0, none⟩) n2 cap]) ∧ Hid (ShareOwnC wx n2 s2 m2 G cap) ∧ Hid ((∀ i, i < n2 → (s2 i).size ≤ maxLen) ∧ ∀ i, i < n2 → 1 ≤ m2 i) ∧ Hid (Blk wx w.heap.size 28 #[.string ⟨#[]⟩, .int .i64 0, .int .i64 0, .int .i64 0, .slice none 0 0]) ∧ Hid (Src wx b (m + 60)) ∧ Hid (Only b w wx))
        case first =>
          obtain ⟨GS, rfl, hgs, hso⟩ := shareRow_own htr.out.1 (by omega)
          have HSO := Lib.hid hso
          have hc1 : ¬ (cnt : Int) = 0 := by omega
          clear hso
          go_wp2_with fail
          go_meet
          exact ⟨GS, cv, cnt, ss, ms, by omega, by omega, by omega, Lib.hid htr.out.2.1, HSO, hle, hR, Lib.hid (htr.out.2.2.mono (by omega)), ho⟩
        case rest =>
        clear htr hle hR ho hxc hxf hgz
        obtain ⟨G, cap, n2, s2, m2, hn1, hn4, hGX, hB, hSO, hle, hR, hs, ho⟩ := hcut
        go_wp2_with fail
        go_loopw [7, 8] (fun u i wr => ∃ (k2 : Nat) (S : Int) (mm : Nat → Int), k2 ≤ n2 ∧ i = .int .i64 k2 ∧ u = .int .i64 S ∧ (0 ≤ S ∧ S ≤ 4000000 * k2) ∧ Hid (Blk wr w2.heap.size 28 #[.string s, .int .i64 no, .int .i64 0, .int .i64 0, .slice (some ⟨G, 0, none⟩) n2 cap]) ∧ Hid (ShareOwnC wr n2 s2 mm G cap) ∧ Hid (∀ i, i < n2 → 1 ≤ mm i) ∧ Hid (Blk wr w.heap.size 28 #[.string ⟨#[]⟩, .int .i64 0, .int .i64 0, .int .i64 0, .slice none 0 0]) ∧ Hid (Src wr b (m + 60)) ∧ Hid (Only b w wr)) (fun _ i _ => n2 - (intOf i).toNat)
        case atStart => exact ⟨0, 0, m2, by omega, rfl, rfl, by omega, hB, hSO, Lib.hid hle.out.2, hR, hs, ho⟩
        case round =>
          have HSZ := Lib.hid hle.out.1
          clear hB hSO hle hR hs ho
          obtain ⟨k2, S, mm, hk2, rfl, rfl, hS, hB, hSO, hmm, hR, hs, ho⟩ := hrel
          have x0 := (hB.out.cell 4).trans rfl
          have xf := hB.out.frozen
          have hgz := hB.out.lt
          by_cases hlt3 : k2 < n2
          · obtain ⟨z, hz⟩ : ∃ z, z = mm k2 := ⟨_, rfl⟩
            have hz1 : 1 ≤ z := by rw [hz]; exact hmm.out k2 hlt3
            have CM := Lib.hid (show wr.cell? ⟨G, k2 * 2 + 1, none⟩ = some (.int .i64 z) from by
              obtain ⟨arr, hbA, -, -, -, hxA⟩ := hSO.out
              rw [hz]
              exact (hbA.cell _).trans (hxA k2 hlt3).2)
            have FM := Lib.hid (show ∀ i, wr.frozen? ⟨G, i, none⟩ = false from by
              obtain ⟨arr, hbA, -⟩ := hSO.out
              exact hbA.frozen)
            clear hz
            go_wp2_with fail
            refine wp_gen (fun W0 hW0 => ?_)
            have s0_ : Only b w W0 := by rw [hW0]; exact ho.out
            have s1_ : W0.cell? ⟨w2.heap.size, 4, none⟩ = some (.slice (some ⟨G, 0, none⟩) n2 cap) := by rw [hW0]; exact x0
            have s2_ : Blk W0 w.heap.size 28 #[.string ⟨#[]⟩, .int .i64 0, .int .i64 0, .int .i64 0, .slice none 0 0] := by rw [hW0]; exact hR.out
            have s3_ : Src W0 b (m + 60) := by rw [hW0]; exact hs.out
            have s4_ : Blk W0 w2.heap.size 28 #[.string s, .int .i64 no, .int .i64 0, .int .i64 0, .slice (some ⟨G, 0, none⟩) n2 cap] := by rw [hW0]; exact hB.out
            have HSA : Hid (ShareOwnC W0 n2 s2 mm G cap) := Lib.hid (by rw [hW0]; exact hSO.out)
            have oM : W0.cell? ⟨G, k2 * 2 + 1, none⟩ = some (.int .i64 z) := (by rw [hW0]; exact CM.out)
            have fM : ∀ i, W0.frozen? ⟨G, i, none⟩ = false := (by rw [hW0]; exact FM.out)
            clear hW0
            refine wp_region_held_drew (S := fun w' => Only b w w' ∧ w'.cell? ⟨w2.heap.size, 4, none⟩ = some (.slice (some ⟨G, 0, none⟩) n2 cap) ∧ Blk w' w.heap.size 28 #[.string ⟨#[]⟩, .int .i64 0, .int .i64 0, .int .i64 0, .slice none 0 0] ∧ Src w' b (m + 60) ∧ Blk w' w2.heap.size 28 #[.string s, .int .i64 no, .int .i64 0, .int .i64 0, .slice (some ⟨G, 0, none⟩) n2 cap]) (by kernel_rfl) ?_ (fun hHeld => ?_)
            · exact ⟨s0_.drew, s1_, s2_, s3_, s4_⟩
            clear s0_ s1_ s2_ s3_ s4_
            refine take_yes (i := 0) (d := 68) (v := ?_) _ rfl rfl (by kernel_rfl) (by kernel_rfl) (by kernel_rfl) (fun _ _ _ _ h => h) (by rfl) ?_ (by assumption) ?_
            rotate_left 1
            · ((intro w hSw; (try dsimp only at hSw); go_simp) <;> (try with_reducible rfl))
            (try simp only [Act.put, List.setIfInBounds_toArray, List.set_cons_zero, List.set_cons_succ])
            refine take_yes (i := 1) (d := 69) (v := ?_) _ rfl rfl (by kernel_rfl) (by kernel_rfl) (by kernel_rfl) (fun _ _ _ _ h => h) (by rfl) ?_ (by assumption) ?_
            rotate_left 1
            · ((intro w hSw; (try dsimp only at hSw); go_simp) <;> (try with_reducible rfl))
            (try simp only [Act.put, List.setIfInBounds_toArray, List.set_cons_zero, List.set_cons_succ])
            refine take_yes (i := 2) (d := 70) (v := ?_) _ rfl rfl (by kernel_rfl) (by kernel_rfl) (by kernel_rfl) (fun _ _ _ _ h => h) (by rfl) ?_ (by assumption) ?_
            rotate_left 1
            · ((intro w hSw; (try dsimp only at hSw); go_simp) <;> (try with_reducible rfl))
            (try simp only [Act.put, List.setIfInBounds_toArray, List.set_cons_zero, List.set_cons_succ])
            refine take_yes (i := 3) (d := 71) (v := ?_) _ rfl rfl (by kernel_rfl) (by kernel_rfl) (by kernel_rfl) (fun _ _ _ _ h => h) (by rfl) ?_ (by assumption) ?_
            rotate_left 1
            · ((intro w hSw; (try dsimp only at hSw); go_simp) <;> (try with_reducible rfl))
            (try simp only [Act.put, List.setIfInBounds_toArray, List.set_cons_zero, List.set_cons_succ])
            refine take_yes (i := 4) (d := 72) (v := ?_) _ rfl rfl (by kernel_rfl) (by kernel_rfl) (by kernel_rfl) (fun _ _ _ _ h => h) (by rfl) ?_ (by assumption) ?_
            rotate_left 1
            · ((intro w hSw; (try dsimp only at hSw); go_simp) <;> (try with_reducible rfl))
            (try simp only [Act.put, List.setIfInBounds_toArray, List.set_cons_zero, List.set_cons_succ])
            refine take_yes (i := 5) (d := 73) (v := ?_) _ rfl rfl (by kernel_rfl) (by kernel_rfl) (by kernel_rfl) (fun _ _ _ _ h => h) (by rfl) ?_ (by assumption) ?_
            rotate_left 1
            · ((intro w hSw; (try dsimp only at hSw); go_simp) <;> (try with_reducible rfl))
            (try simp only [Act.put, List.setIfInBounds_toArray, List.set_cons_zero, List.set_cons_succ])
            refine take_yes (i := 6) (d := 74) (v := ?_) _ rfl rfl (by kernel_rfl) (by kernel_rfl) (by kernel_rfl) (fun _ _ _ _ h => h) (by rfl) ?_ (by assumption) ?_
            rotate_left 1
            · ((intro w hSw; (try dsimp only at hSw); go_simp) <;> (try with_reducible rfl))
            (try simp only [Act.put, List.setIfInBounds_toArray, List.set_cons_zero, List.set_cons_succ])
            refine take_yes (i := 7) (d := 75) (v := ?_) _ rfl rfl (by kernel_rfl) (by kernel_rfl) (by kernel_rfl) (fun _ _ _ _ h => h) (by rfl) ?_ (by assumption) ?_
            rotate_left 1
            · ((intro w hSw; (try dsimp only at hSw); go_simp) <;> (try with_reducible rfl))
            (try simp only [Act.put, List.setIfInBounds_toArray, List.set_cons_zero, List.set_cons_succ])
            (refine wpAnyH_ready (rs := [8]) (by kernel_rfl) (by simp) ?_; refine AllReadyH.cons rfl (fun K hK => ?_) AllReadyH.nil; go_simp; refine hK.out _ _ (by assumption) (fun hHeld2 => ?_); clear hK K hHeld; have hHeld := hHeld2; clear hHeld2; (try simp only [Act.put, List.setIfInBounds_toArray, List.set_cons_zero, List.set_cons_succ]))
            (refine wpAnyH_ready (rs := [9]) (by kernel_rfl) (by simp) ?_; refine AllReadyH.cons rfl (fun K hK => ?_) AllReadyH.nil; go_simp; go_at_call 45; refine (min_callsD _ _ _).mono ?_; rintro e wd ⟨rfl, rfl⟩; refine hK.out _ _ (by assumption) (fun hHeld2 => ?_); clear hK K hHeld; have hHeld := hHeld2; clear hHeld2; (try simp only [Act.put, List.setIfInBounds_toArray, List.set_cons_zero, List.set_cons_succ]))
            refine take_yes (i := 10) (d := 78) (v := ?_) _ rfl rfl (by kernel_rfl) (by kernel_rfl) (by kernel_rfl) (fun _ _ _ _ h => h) (by rfl) ?_ (by assumption) ?_
            rotate_left 1
            · ((intro w hSw; (try dsimp only at hSw); go_simp) <;> (try with_reducible rfl))
            (try simp only [Act.put, List.setIfInBounds_toArray, List.set_cons_zero, List.set_cons_succ])
            refine take_yes (i := 11) (d := 79) (v := ?_) _ rfl rfl (by kernel_rfl) (by kernel_rfl) (by kernel_rfl) (fun _ _ _ _ h => h) (by rfl) ?_ (by assumption) ?_
            rotate_left 1
            · ((intro w hSw; (try dsimp only at hSw); go_simp) <;> (try with_reducible rfl))
            (try simp only [Act.put, List.setIfInBounds_toArray, List.set_cons_zero, List.set_cons_succ])
            (refine wpAnyH_ready (rs := [12]) (by kernel_rfl) (by simp) ?_; refine AllReadyH.cons rfl (fun K hK => ?_) AllReadyH.nil; go_simp; refine hK.out _ _ (by obtain ⟨x0_, x1_, x2_, x3_, x4_⟩ := hHeld; exact ⟨x0_.setNew (by omega) _ _, cellG x1_ (by omega), x2_.far (p := ⟨G, k2 * 2 + 1, none⟩) (by (try dsimp only); omega) _, x3_.far (by omega) _ _, x4_.far (p := ⟨G, k2 * 2 + 1, none⟩) (by (try dsimp only); omega) _⟩) (fun hHeld2 => ?_); clear hK K hHeld; (try clear hOld); have hHeld := hHeld2; clear hHeld2; (try simp only [Act.put, List.setIfInBounds_toArray, List.set_cons_zero, List.set_cons_succ]))
            refine wpAnyH_done (by kernel_rfl) ?_ _
            obtain ⟨z0, z1, z2, z3, z4⟩ := hHeld
            have HSB := Lib.hid (HSA.out.setM hlt3 (min z 4000000))
            have hmn : 1 ≤ min z 4000000 ∧ min z 4000000 ≤ 4000000 := by omega
            obtain ⟨mv, hmv⟩ : ∃ mv, mv = min z 4000000 := ⟨_, rfl⟩
            rw [← hmv] at HSB hmn z0 z1 z2 z3 z4
            rw [← hmv]
            have cN := (show World.cell? _ ⟨G, k2 * 2 + 1, none⟩ = some (.int .i64 mv) from by obtain ⟨arr, hbA, -, -, -, hxA⟩ := HSB.out; exact (hbA.cell _).trans ((hxA k2 hlt3).2.trans (by simp)))
            have e3 : IntKind.i64.wrap (S + mv) = S + mv := IntWalk.i64_in _ ⟨by omega, by omega⟩
            clear HSA oM fM CM FM hmv hB hSO hR hs ho x0 xf
            go_wp2
            go_roundw
            case rel => exact ⟨k2 + 1, S + mv, fun j => if j = k2 then mv else mm j, by omega, by go_num, rfl, by omega, Lib.hid z4, HSB, Lib.hid (fun i hi => by (try dsimp only); split; exact hmn.1; exact hmm.out i hi), Lib.hid z2, Lib.hid z3, Lib.hid z0⟩
            case measure => simp [intOf]; omega
          · obtain rfl : k2 = n2 := by omega
            go_wp2_with fail
            go_at_call 41
            refine (among_calls (okI 10 100000000) _ _ _ _ _ _ _ _ (by exact hs.out.alloc _) (by omega) (by exact Blk.new _ _ _) (by omega) (by rfl) (by rfl) (by omega) (by omega)).mono ?_
            rintro e w5 ⟨t, ht, rfl, hs5, ho5⟩
            obtain ⟨t0, t1⟩ := okI_iff.1 ht
            have tne : ¬ t = 0 := by omega
            have e1 : IntKind.i64.wrap (S.tdiv t) = S / t := quo_nonneg hS.1 (by omega) (by omega)
            have hF0 : 0 ≤ S / t := Int.ediv_nonneg hS.1 (by omega)
            have hF1 : S / t ≤ S := Int.ediv_le_self _ hS.1
            obtain ⟨F, hF⟩ : ∃ F, F = S / t := ⟨_, rfl⟩
            rw [← hF] at e1 hF0 hF1
            have hF2 : S / t = F := hF.symm
            clear hF
            have B5 := ho5.blk (show w2.heap.size ≠ b by omega) (hB.out.alloc _)
            have R5 := ho5.blk (show w.heap.size ≠ b by omega) (hR.out.alloc _)
            have hSOg : G < wr.heap.size := by obtain ⟨arr, hbA, -⟩ := hSO.out; exact hbA.lt
            have SO5 := Lib.hid (show ShareOwnC w5 k2 s2 mm G cap from by
              refine ShareOwnC.only ?_ ho5 (by omega)
              obtain ⟨arr, hbA, r⟩ := hSO.out
              exact ⟨arr, hbA.alloc _, r⟩)
            have S5 := Lib.hid hs5
            have O5 := Lib.hid ((ho.out.alloc _).trans ho5)
            have HB5 := Lib.hid B5
            have HR5 := Lib.hid R5
            have x0 := (B5.cell 0).trans rfl
            have x1 := (B5.cell 1).trans rfl
            have x2 := (B5.cell 2).trans rfl
            have x3 := (B5.cell 3).trans rfl
            have x4 := (B5.cell 4).trans rfl
            have y0 := (R5.cell 0).trans rfl
            have y1 := (R5.cell 1).trans rfl
            have y2 := (R5.cell 2).trans rfl
            have y3 := (R5.cell 3).trans rfl
            have y4 := (R5.cell 4).trans rfl
            have gf := B5.frozen
            have rf := R5.frozen
            have hne : w.heap.size ≠ w2.heap.size := by omega
            clear hs5 ho5 ht B5 R5 hB hSO hR hs ho hmm xf
            by_cases hFS : F = S
            · subst hFS
              have e2 : IntKind.i64.wrap (F - 0) = F := IntWalk.i64_in _ ⟨by omega, by omega⟩ |>.trans (by omega)
              go_wp2
              refine bodyPost_ret (v := .agg #[.string s, .int .i64 no, .int .i64 F, .int .i64 0, .slice (some ⟨G, 0, none⟩) k2 cap]) (by simp [results, Tryz.results15, go_sem, y0, y1, y2, y3, y4]) rfl ?_
              refine ⟨s, no, F, 0, k2, s2, mm, G, cap, rfl, ⟨⟨by show s.size ≤ maxLen; unfold maxLen; omega, HSZ.out, by show k2 ≤ 1048576; omega⟩, by show 0 ≤ F; omega, by show F ≤ 100000000; omega, by show k2 ≤ 1000; omega⟩, by omega, ?_, ?_, ?_⟩
              · repeat (refine ShareOwnC.far ?_ (by omega))
                exact SO5.out
              · repeat (refine Src.far ?_ (by omega) _ _)
                exact S5.out.mono (by omega)
              · repeat (refine Only.setNew ?_ (by omega) _ _)
                exact O5.out
            · have e2 : IntKind.i64.wrap (S - F) = S - F := IntWalk.i64_in _ ⟨by omega, by omega⟩
              go_wp2
              refine bodyPost_ret (v := .agg #[.string s, .int .i64 no, .int .i64 (S - F), .int .i64 F, .slice (some ⟨G, 0, none⟩) k2 cap]) (by simp [results, Tryz.results15, go_sem, y0, y1, y2, y3, y4]) rfl ?_
              refine ⟨s, no, S - F, F, k2, s2, mm, G, cap, rfl, ⟨⟨by show s.size ≤ maxLen; unfold maxLen; omega, HSZ.out, by show k2 ≤ 1048576; omega⟩, by show 0 ≤ S - F; omega, by show S - F ≤ 100000000; omega, by show k2 ≤ 1000; omega⟩, by omega, ?_, ?_, ?_⟩
              · repeat (refine ShareOwnC.far ?_ (by omega))
                exact SO5.out
              · repeat (refine Src.far ?_ (by omega) _ _)
                exact S5.out.mono (by omega)
              · repeat (refine Only.setNew ?_ (by omega) _ _)
                exact O5.out
    · skip
      go_upto_if 54 with (fail)
      go_cut [] (fun wx => ∃ (G cap n2 : Nat) (s2 : Nat → ByteArray) (m2 : Nat → Int), 1 ≤ n2 ∧ n2 ≤ 4 ∧ w2.heap.size < G ∧ Hid (Blk wx w2.heap.size 28 #[.string s, .int .i64 no, .int .i64 0, .int .i64 0, .slice (some ⟨G, 0, none⟩) n2 cap]) ∧ Hid (ShareOwnC wx n2 s2 m2 G cap) ∧ Hid ((∀ i, i < n2 → (s2 i).size ≤ maxLen) ∧ ∀ i, i < n2 → 1 ≤ m2 i) ∧ Hid (Blk wx w.heap.size 28 #[.string ⟨#[]⟩, .int .i64 0, .int .i64 0, .int .i64 0, .slice none 0 0]) ∧ Hid (Src wx b (m + 60)) ∧ Hid (Only b w wx))
      case first =>
        by_cases hc0 : cnt = 0
        · skip
          subst hc0
          go_wp2_with fail
          go_at_call 42
          refine (text_calls (fun s => decide (s.size ≤ 2)) _ _ _ _ _ _ _ _ (by exact htr.out.2.2.alloc _) (by omega) (by exact Blk.new _ _ _) (by omega) (by decide +kernel) (by rfl) (by omega) (by omega)).mono ?_
          rintro e w4 ⟨yy, hyn, rfl, hs4, ho4⟩
          have hys : yy.size ≤ 2 := of_decide_eq_true hyn
          have B4 := Lib.hid (ho4.blk (show w2.heap.size ≠ b by omega) (htr.out.2.1.alloc _))
          have R4 := Lib.hid (ho4.blk (show w.heap.size ≠ b by omega) (hR.out.alloc _))
          have S4 := Lib.hid hs4
          have O4 := Lib.hid ((ho.out.alloc _).trans ho4)
          have hg4 := B4.out.lt
          have hf4 := B4.out.frozen
          have c4 := (B4.out.cell 4).trans rfl
          have hw4 : wr.heap.size < w4.heap.size := by have := ho4.size; simp at this; omega
          clear hyn hs4 ho4 htr hR ho hxc hxf
          go_wp2_with fail
          go_meet
          have q9 : Blk ((w4.setCell ⟨w2.heap.size, 4, none⟩ (.slice (some ⟨w4.heap.size, 0, none⟩) 1 1)).alloc (.cells #[.string yy, .int .i64 1000] 41)) w4.heap.size 41 #[.string yy, .int .i64 1000] := by
            have q8 := Blk.new (w4.setCell ⟨w2.heap.size, 4, none⟩ (.slice (some ⟨w4.heap.size, 0, none⟩) 1 1)) 41 #[.string yy, .int .i64 1000]
            simpa using q8
          have q7 : ShareOwnC _ 1 (fun _ => yy) (fun _ => 1000) w4.heap.size 1 := ⟨#[.string yy, .int .i64 1000], q9, rfl, Nat.le_refl _, by unfold maxLen; omega, fun i hi => by obtain rfl : i = 0 := (by omega); exact ⟨rfl, rfl⟩⟩
          exact ⟨w4.heap.size, 1, 1, fun _ => yy, fun _ => 1000, by omega, by omega, by omega, Lib.hid ((B4.out.set_ 4 (.slice (some ⟨w4.heap.size, 0, none⟩) 1 1)).alloc _), Lib.hid q7, Lib.hid ⟨fun i _ => by show yy.size ≤ maxLen; unfold maxLen; omega, fun i _ => by show (1 : Int) ≤ 1000; omega⟩, Lib.hid ((R4.out.far (p := ⟨w2.heap.size, 4, none⟩) (by (try dsimp only); omega) _).alloc _), Lib.hid (((S4.out.far (by omega) _ _).alloc _).mono (by omega)), Lib.hid ((O4.out.setNew (by omega) _ _).alloc _)⟩
        · skip
          obtain ⟨GS, rfl, hgs, hso⟩ := shareRow_own htr.out.1 (by omega)
          have HSO := Lib.hid hso
          have hc1 : ¬ (cnt : Int) = 0 := by omega
          clear hso
          go_wp2_with fail
          go_meet
          exact ⟨GS, cv, cnt, ss, ms, by omega, by omega, by omega, Lib.hid htr.out.2.1, HSO, hle, hR, Lib.hid (htr.out.2.2.mono (by omega)), ho⟩
      case rest =>
      clear htr hle hR ho hxc hxf hgz
      obtain ⟨G, cap, n2, s2, m2, hn1, hn4, hGX, hB, hSO, hle, hR, hs, ho⟩ := hcut
      go_wp2_with fail
      go_loopw [7, 8] (fun u i wr => ∃ (k2 : Nat) (S : Int) (mm : Nat → Int), k2 ≤ n2 ∧ i = .int .i64 k2 ∧ u = .int .i64 S ∧ (0 ≤ S ∧ S ≤ 4000000 * k2) ∧ Hid (Blk wr w2.heap.size 28 #[.string s, .int .i64 no, .int .i64 0, .int .i64 0, .slice (some ⟨G, 0, none⟩) n2 cap]) ∧ Hid (ShareOwnC wr n2 s2 mm G cap) ∧ Hid (∀ i, i < n2 → 1 ≤ mm i) ∧ Hid (Blk wr w.heap.size 28 #[.string ⟨#[]⟩, .int .i64 0, .int .i64 0, .int .i64 0, .slice none 0 0]) ∧ Hid (Src wr b (m + 60)) ∧ Hid (Only b w wr)) (fun _ i _ => n2 - (intOf i).toNat)
      case atStart => exact ⟨0, 0, m2, by omega, rfl, rfl, by omega, hB, hSO, Lib.hid hle.out.2, hR, hs, ho⟩
      case round =>
        have HSZ := Lib.hid hle.out.1
        clear hB hSO hle hR hs ho
        obtain ⟨k2, S, mm, hk2, rfl, rfl, hS, hB, hSO, hmm, hR, hs, ho⟩ := hrel
        have x0 := (hB.out.cell 4).trans rfl
        have xf := hB.out.frozen
        have hgz := hB.out.lt
        by_cases hlt3 : k2 < n2
        · obtain ⟨z, hz⟩ : ∃ z, z = mm k2 := ⟨_, rfl⟩
          have hz1 : 1 ≤ z := by rw [hz]; exact hmm.out k2 hlt3
          have CM := Lib.hid (show wr.cell? ⟨G, k2 * 2 + 1, none⟩ = some (.int .i64 z) from by
            obtain ⟨arr, hbA, -, -, -, hxA⟩ := hSO.out
            rw [hz]
            exact (hbA.cell _).trans (hxA k2 hlt3).2)
          have FM := Lib.hid (show ∀ i, wr.frozen? ⟨G, i, none⟩ = false from by
            obtain ⟨arr, hbA, -⟩ := hSO.out
            exact hbA.frozen)
          clear hz
          go_wp2_with fail
          refine wp_gen (fun W0 hW0 => ?_)
          have s0_ : Only b w W0 := by rw [hW0]; exact ho.out
          have s1_ : W0.cell? ⟨w2.heap.size, 4, none⟩ = some (.slice (some ⟨G, 0, none⟩) n2 cap) := by rw [hW0]; exact x0
          have s2_ : Blk W0 w.heap.size 28 #[.string ⟨#[]⟩, .int .i64 0, .int .i64 0, .int .i64 0, .slice none 0 0] := by rw [hW0]; exact hR.out
          have s3_ : Src W0 b (m + 60) := by rw [hW0]; exact hs.out
          have s4_ : Blk W0 w2.heap.size 28 #[.string s, .int .i64 no, .int .i64 0, .int .i64 0, .slice (some ⟨G, 0, none⟩) n2 cap] := by rw [hW0]; exact hB.out
          have HSA : Hid (ShareOwnC W0 n2 s2 mm G cap) := Lib.hid (by rw [hW0]; exact hSO.out)
          have oM : W0.cell? ⟨G, k2 * 2 + 1, none⟩ = some (.int .i64 z) := (by rw [hW0]; exact CM.out)
          have fM : ∀ i, W0.frozen? ⟨G, i, none⟩ = false := (by rw [hW0]; exact FM.out)
          clear hW0
          refine wp_region_held_drew (S := fun w' => Only b w w' ∧ w'.cell? ⟨w2.heap.size, 4, none⟩ = some (.slice (some ⟨G, 0, none⟩) n2 cap) ∧ Blk w' w.heap.size 28 #[.string ⟨#[]⟩, .int .i64 0, .int .i64 0, .int .i64 0, .slice none 0 0] ∧ Src w' b (m + 60) ∧ Blk w' w2.heap.size 28 #[.string s, .int .i64 no, .int .i64 0, .int .i64 0, .slice (some ⟨G, 0, none⟩) n2 cap]) (by kernel_rfl) ?_ (fun hHeld => ?_)
          · exact ⟨s0_.drew, s1_, s2_, s3_, s4_⟩
          clear s0_ s1_ s2_ s3_ s4_
          refine take_yes (i := 0) (d := 68) (v := ?_) _ rfl rfl (by kernel_rfl) (by kernel_rfl) (by kernel_rfl) (fun _ _ _ _ h => h) (by rfl) ?_ (by assumption) ?_
          rotate_left 1
          · ((intro w hSw; (try dsimp only at hSw); go_simp) <;> (try with_reducible rfl))
          (try simp only [Act.put, List.setIfInBounds_toArray, List.set_cons_zero, List.set_cons_succ])
          refine take_yes (i := 1) (d := 69) (v := ?_) _ rfl rfl (by kernel_rfl) (by kernel_rfl) (by kernel_rfl) (fun _ _ _ _ h => h) (by rfl) ?_ (by assumption) ?_
          rotate_left 1
          · ((intro w hSw; (try dsimp only at hSw); go_simp) <;> (try with_reducible rfl))
          (try simp only [Act.put, List.setIfInBounds_toArray, List.set_cons_zero, List.set_cons_succ])
          refine take_yes (i := 2) (d := 70) (v := ?_) _ rfl rfl (by kernel_rfl) (by kernel_rfl) (by kernel_rfl) (fun _ _ _ _ h => h) (by rfl) ?_ (by assumption) ?_
          rotate_left 1
          · ((intro w hSw; (try dsimp only at hSw); go_simp) <;> (try with_reducible rfl))
          (try simp only [Act.put, List.setIfInBounds_toArray, List.set_cons_zero, List.set_cons_succ])
          refine take_yes (i := 3) (d := 71) (v := ?_) _ rfl rfl (by kernel_rfl) (by kernel_rfl) (by kernel_rfl) (fun _ _ _ _ h => h) (by rfl) ?_ (by assumption) ?_
          rotate_left 1
          · ((intro w hSw; (try dsimp only at hSw); go_simp) <;> (try with_reducible rfl))
          (try simp only [Act.put, List.setIfInBounds_toArray, List.set_cons_zero, List.set_cons_succ])
          refine take_yes (i := 4) (d := 72) (v := ?_) _ rfl rfl (by kernel_rfl) (by kernel_rfl) (by kernel_rfl) (fun _ _ _ _ h => h) (by rfl) ?_ (by assumption) ?_
          rotate_left 1
          · ((intro w hSw; (try dsimp only at hSw); go_simp) <;> (try with_reducible rfl))
          (try simp only [Act.put, List.setIfInBounds_toArray, List.set_cons_zero, List.set_cons_succ])
          refine take_yes (i := 5) (d := 73) (v := ?_) _ rfl rfl (by kernel_rfl) (by kernel_rfl) (by kernel_rfl) (fun _ _ _ _ h => h) (by rfl) ?_ (by assumption) ?_
          rotate_left 1
          · ((intro w hSw; (try dsimp only at hSw); go_simp) <;> (try with_reducible rfl))
          (try simp only [Act.put, List.setIfInBounds_toArray, List.set_cons_zero, List.set_cons_succ])
          refine take_yes (i := 6) (d := 74) (v := ?_) _ rfl rfl (by kernel_rfl) (by kernel_rfl) (by kernel_rfl) (fun _ _ _ _ h => h) (by rfl) ?_ (by assumption) ?_
          rotate_left 1
          · ((intro w hSw; (try dsimp only at hSw); go_simp) <;> (try with_reducible rfl))
          (try simp only [Act.put, List.setIfInBounds_toArray, List.set_cons_zero, List.set_cons_succ])
          refine take_yes (i := 7) (d := 75) (v := ?_) _ rfl rfl (by kernel_rfl) (by kernel_rfl) (by kernel_rfl) (fun _ _ _ _ h => h) (by rfl) ?_ (by assumption) ?_
          rotate_left 1
          · ((intro w hSw; (try dsimp only at hSw); go_simp) <;> (try with_reducible rfl))
          (try simp only [Act.put, List.setIfInBounds_toArray, List.set_cons_zero, List.set_cons_succ])
          (refine wpAnyH_ready (rs := [8]) (by kernel_rfl) (by simp) ?_; refine AllReadyH.cons rfl (fun K hK => ?_) AllReadyH.nil; go_simp; refine hK.out _ _ (by assumption) (fun hHeld2 => ?_); clear hK K hHeld; have hHeld := hHeld2; clear hHeld2; (try simp only [Act.put, List.setIfInBounds_toArray, List.set_cons_zero, List.set_cons_succ]))
          (refine wpAnyH_ready (rs := [9]) (by kernel_rfl) (by simp) ?_; refine AllReadyH.cons rfl (fun K hK => ?_) AllReadyH.nil; go_simp; go_at_call 45; refine (min_callsD _ _ _).mono ?_; rintro e wd ⟨rfl, rfl⟩; refine hK.out _ _ (by assumption) (fun hHeld2 => ?_); clear hK K hHeld; have hHeld := hHeld2; clear hHeld2; (try simp only [Act.put, List.setIfInBounds_toArray, List.set_cons_zero, List.set_cons_succ]))
          refine take_yes (i := 10) (d := 78) (v := ?_) _ rfl rfl (by kernel_rfl) (by kernel_rfl) (by kernel_rfl) (fun _ _ _ _ h => h) (by rfl) ?_ (by assumption) ?_
          rotate_left 1
          · ((intro w hSw; (try dsimp only at hSw); go_simp) <;> (try with_reducible rfl))
          (try simp only [Act.put, List.setIfInBounds_toArray, List.set_cons_zero, List.set_cons_succ])
          refine take_yes (i := 11) (d := 79) (v := ?_) _ rfl rfl (by kernel_rfl) (by kernel_rfl) (by kernel_rfl) (fun _ _ _ _ h => h) (by rfl) ?_ (by assumption) ?_
          rotate_left 1
          · ((intro w hSw; (try dsimp only at hSw); go_simp) <;> (try with_reducible rfl))
          (try simp only [Act.put, List.setIfInBounds_toArray, List.set_cons_zero, List.set_cons_succ])
          (refine wpAnyH_ready (rs := [12]) (by kernel_rfl) (by simp) ?_; refine AllReadyH.cons rfl (fun K hK => ?_) AllReadyH.nil; go_simp; refine hK.out _ _ (by obtain ⟨x0_, x1_, x2_, x3_, x4_⟩ := hHeld; exact ⟨x0_.setNew (by omega) _ _, cellG x1_ (by omega), x2_.far (p := ⟨G, k2 * 2 + 1, none⟩) (by (try dsimp only); omega) _, x3_.far (by omega) _ _, x4_.far (p := ⟨G, k2 * 2 + 1, none⟩) (by (try dsimp only); omega) _⟩) (fun hHeld2 => ?_); clear hK K hHeld; (try clear hOld); have hHeld := hHeld2; clear hHeld2; (try simp only [Act.put, List.setIfInBounds_toArray, List.set_cons_zero, List.set_cons_succ]))
          refine wpAnyH_done (by kernel_rfl) ?_ _
          obtain ⟨z0, z1, z2, z3, z4⟩ := hHeld
          have HSB := Lib.hid (HSA.out.setM hlt3 (min z 4000000))
          have hmn : 1 ≤ min z 4000000 ∧ min z 4000000 ≤ 4000000 := by omega
          obtain ⟨mv, hmv⟩ : ∃ mv, mv = min z 4000000 := ⟨_, rfl⟩
          rw [← hmv] at HSB hmn z0 z1 z2 z3 z4
          rw [← hmv]
          have cN := (show World.cell? _ ⟨G, k2 * 2 + 1, none⟩ = some (.int .i64 mv) from by obtain ⟨arr, hbA, -, -, -, hxA⟩ := HSB.out; exact (hbA.cell _).trans ((hxA k2 hlt3).2.trans (by simp)))
          have e3 : IntKind.i64.wrap (S + mv) = S + mv := IntWalk.i64_in _ ⟨by omega, by omega⟩
          clear HSA oM fM CM FM hmv hB hSO hR hs ho x0 xf
          go_wp2
          go_roundw
          case rel => exact ⟨k2 + 1, S + mv, fun j => if j = k2 then mv else mm j, by omega, by go_num, rfl, by omega, Lib.hid z4, HSB, Lib.hid (fun i hi => by (try dsimp only); split; exact hmn.1; exact hmm.out i hi), Lib.hid z2, Lib.hid z3, Lib.hid z0⟩
          case measure => simp [intOf]; omega
        · obtain rfl : k2 = n2 := by omega
          go_wp2_with fail
          go_at_call 41
          refine (among_calls (okI 10 100000000) _ _ _ _ _ _ _ _ (by exact hs.out.alloc _) (by omega) (by exact Blk.new _ _ _) (by omega) (by rfl) (by rfl) (by omega) (by omega)).mono ?_
          rintro e w5 ⟨t, ht, rfl, hs5, ho5⟩
          obtain ⟨t0, t1⟩ := okI_iff.1 ht
          have tne : ¬ t = 0 := by omega
          have e1 : IntKind.i64.wrap (S.tdiv t) = S / t := quo_nonneg hS.1 (by omega) (by omega)
          have hF0 : 0 ≤ S / t := Int.ediv_nonneg hS.1 (by omega)
          have hF1 : S / t ≤ S := Int.ediv_le_self _ hS.1
          obtain ⟨F, hF⟩ : ∃ F, F = S / t := ⟨_, rfl⟩
          rw [← hF] at e1 hF0 hF1
          have hF2 : S / t = F := hF.symm
          clear hF
          have B5 := ho5.blk (show w2.heap.size ≠ b by omega) (hB.out.alloc _)
          have R5 := ho5.blk (show w.heap.size ≠ b by omega) (hR.out.alloc _)
          have hSOg : G < wr.heap.size := by obtain ⟨arr, hbA, -⟩ := hSO.out; exact hbA.lt
          have SO5 := Lib.hid (show ShareOwnC w5 k2 s2 mm G cap from by
            refine ShareOwnC.only ?_ ho5 (by omega)
            obtain ⟨arr, hbA, r⟩ := hSO.out
            exact ⟨arr, hbA.alloc _, r⟩)
          have S5 := Lib.hid hs5
          have O5 := Lib.hid ((ho.out.alloc _).trans ho5)
          have HB5 := Lib.hid B5
          have HR5 := Lib.hid R5
          have x0 := (B5.cell 0).trans rfl
          have x1 := (B5.cell 1).trans rfl
          have x2 := (B5.cell 2).trans rfl
          have x3 := (B5.cell 3).trans rfl
          have x4 := (B5.cell 4).trans rfl
          have y0 := (R5.cell 0).trans rfl
          have y1 := (R5.cell 1).trans rfl
          have y2 := (R5.cell 2).trans rfl
          have y3 := (R5.cell 3).trans rfl
          have y4 := (R5.cell 4).trans rfl
          have gf := B5.frozen
          have rf := R5.frozen
          have hne : w.heap.size ≠ w2.heap.size := by omega
          clear hs5 ho5 ht B5 R5 hB hSO hR hs ho hmm xf
          by_cases hFS : F = S
          · subst hFS
            have e2 : IntKind.i64.wrap (F - 0) = F := IntWalk.i64_in _ ⟨by omega, by omega⟩ |>.trans (by omega)
            go_wp2
            refine bodyPost_ret (v := .agg #[.string s, .int .i64 no, .int .i64 F, .int .i64 0, .slice (some ⟨G, 0, none⟩) k2 cap]) (by simp [results, Tryz.results15, go_sem, y0, y1, y2, y3, y4]) rfl ?_
            refine ⟨s, no, F, 0, k2, s2, mm, G, cap, rfl, ⟨⟨by show s.size ≤ maxLen; unfold maxLen; omega, HSZ.out, by show k2 ≤ 1048576; omega⟩, by show 0 ≤ F; omega, by show F ≤ 100000000; omega, by show k2 ≤ 1000; omega⟩, by omega, ?_, ?_, ?_⟩
            · repeat (refine ShareOwnC.far ?_ (by omega))
              exact SO5.out
            · repeat (refine Src.far ?_ (by omega) _ _)
              exact S5.out.mono (by omega)
            · repeat (refine Only.setNew ?_ (by omega) _ _)
              exact O5.out
          · have e2 : IntKind.i64.wrap (S - F) = S - F := IntWalk.i64_in _ ⟨by omega, by omega⟩
            go_wp2
            refine bodyPost_ret (v := .agg #[.string s, .int .i64 no, .int .i64 (S - F), .int .i64 F, .slice (some ⟨G, 0, none⟩) k2 cap]) (by simp [results, Tryz.results15, go_sem, y0, y1, y2, y3, y4]) rfl ?_
            refine ⟨s, no, S - F, F, k2, s2, mm, G, cap, rfl, ⟨⟨by show s.size ≤ maxLen; unfold maxLen; omega, HSZ.out, by show k2 ≤ 1048576; omega⟩, by show 0 ≤ S - F; omega, by show S - F ≤ 100000000; omega, by show k2 ≤ 1000; omega⟩, by omega, ?_, ?_, ?_⟩
            · repeat (refine ShareOwnC.far ?_ (by omega))
              exact SO5.out
            · repeat (refine Src.far ?_ (by omega) _ _)
              exact S5.out.mono (by omega)
            · repeat (refine Only.setNew ?_ (by omega) _ _)
              exact O5.out
end Go.Proofs.YticnpibkpfpojaaGreatDoor
