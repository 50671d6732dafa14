/- Which lists of melts are valid, in the program and in the reference. -/
import Derived.Test.YticnpibkpfpojaaGreatDoorMeltV
import Derived.Deep.RegionHeld3
namespace Go.Proofs.YticnpibkpfpojaaGreatDoor
set_option linter.unusedVariables false
set_option linter.unusedSimpArgs false
open Go.RowKit

set_option maxHeartbeats 1000000 in
theorem anyMelt_index (A : Option Addr) (n c : Nat) (f : Nat → MeltV) (g : Nat) (p : Nat → Bool) (w : World) (h : MeltRow w A n f) (hn : n ≤ 1048576) (hp : ∀ k W AK CK, k < n → Below w.heap.size w W → StrRow W AK (f k).n (f k).ss → Calls Tryz.prog 50 #[.agg #[.string (f k).id, .slice AK (f k).n CK, .int .i64 (f k).ma], .pointer (some ⟨g, 0, none⟩)] W fun e w' => e = .returned (.bool (p k)) ∧ Below W.heap.size W w') :
    Calls Tryz.prog 77 #[.slice A n c, .func (.func 50) #[] #[.pointer (some ⟨g, 0, none⟩)]] w fun e w' => (∃ x : Int, decide (0 ≤ x) = anyB p n ∧ e = .returned (.int .i64 x)) ∧ Below w.heap.size w w' := by
  have H := Lib.hid h
  have HP := Lib.hid hp
  generalize hres : anyB p n = R
  have HRES := Lib.hid hres
  clear h hp hres
  go_enter Tryz.func77, Tryz.ntmps77
  go_wp2
  go_loopw [8] (fun i wr => ∃ k : Nat, k ≤ n ∧ i = .int .i64 k ∧ Hid (allB (fun i => !p i) k = true) ∧ Below w.heap.size w wr) (fun i _ => n - (intOf i).toNat)
  case atStart => exact ⟨0, by omega, rfl, rfl, Below.refl _ _⟩
  case round =>
    obtain ⟨k, hk, rfl, hgood, hbr⟩ := hrel
    by_cases hlt : k < n
    · obtain ⟨b, o, rfl, hrow⟩ := H.out (by omega)
      obtain ⟨AK, CK, c0, c1, c2, c3⟩ := (hrow k hlt).keep hbr
      have HR := Lib.hid hrow
      have HC := Lib.hid (HP.out k wr AK CK hlt hbr c3)
      clear hrow c3
      cases q1 : p k
      · rw [q1] at HC
        go_wp2_with (go_at_call 50; with_reducible refine HC.out.mono ?_; rintro e w1 ⟨rfl, hb⟩; have hbr2 := hbr.trans (hb.mono hbr.size); clear hb)
        go_roundw
        case rel => exact ⟨k + 1, by omega, by go_num, Lib.hid (by rw [show allB (fun i => !p i) (k + 1) = (allB (fun i => !p i) k && !p k) from rfl, hgood.out, q1]; rfl), hbr2⟩
        case measure => simp [intOf]; omega
      · rw [q1] at HC
        go_wp2_with (go_at_call 50; with_reducible refine HC.out.mono ?_; rintro e w1 ⟨rfl, hb⟩; have hbr2 := hbr.trans (hb.mono hbr.size); clear hb)
        go_ret
        exact ⟨⟨k, by rw [← HRES.out, anyB_hit hlt q1]; exact decide_eq_true (by omega), rfl⟩, hbr2⟩
    · obtain rfl : k = n := by omega
      go_wp2
      go_ret
      exact ⟨⟨-1, by rw [← HRES.out]; simp [anyB, hgood.out], rfl⟩, hbr⟩
set_option maxHeartbeats 400000 in
theorem anyMelt (A : Option Addr) (n c : Nat) (f : Nat → MeltV) (g : Nat) (p : Nat → Bool) (w : World) (h : MeltRow w A n f) (hn : n ≤ 1048576) (hp : ∀ k W AK CK, k < n → Below w.heap.size w W → StrRow W AK (f k).n (f k).ss → Calls Tryz.prog 50 #[.agg #[.string (f k).id, .slice AK (f k).n CK, .int .i64 (f k).ma], .pointer (some ⟨g, 0, none⟩)] W fun e w' => e = .returned (.bool (p k)) ∧ Below W.heap.size W w') :
    Calls Tryz.prog 49 #[.slice A n c, .func (.func 50) #[] #[.pointer (some ⟨g, 0, none⟩)]] w fun e w' => e = .returned (.bool (anyB p n)) ∧ Below w.heap.size w w' := by
  go_enter Tryz.func49, Tryz.ntmps49
  go_wp2_with (go_at_call 77; refine (anyMelt_index A n c f g p w h hn hp).mono ?_; rintro e w1 ⟨⟨x, hx, rfl⟩, hb⟩)
  go_ret
  exact ⟨by first | rfl | exact ret_bool hx, hb⟩
set_option maxRecDepth 20000 in
set_option maxHeartbeats 8000000 in
theorem ValidMelts_calls (A : Option Addr) (n c : Nat) (f : Nat → MeltV) (w : World) (h : MeltRow w A n f) (hf : ∀ i, i < n → FineM (f i)) (hn : n ≤ 1048576) (hc : n ≤ c) :
    Calls Tryz.prog 20 #[.slice A n c] w fun e w' => e = .returned (.bool (okMelts f n)) ∧ Below w.heap.size w w' := by
  generalize hres : okMelts f n = R
  have HRES := Lib.hid hres
  have H := Lib.hid h
  have HF := Lib.hid hf
  clear h hf hres
  go_enter Tryz.func20, Tryz.ntmps20
  go_wp2
  go_loopw [7] (fun i wr => ∃ k : Nat, k ≤ n ∧ i = .int .i64 k ∧ Hid (meltsOk f k = true) ∧ Below w.heap.size w wr) (fun i _ => n - (intOf i).toNat)
  case atStart => exact ⟨0, by omega, rfl, rfl, Below.refl _ _⟩
  case round =>
    obtain ⟨k, hk, rfl, hgood, hbr⟩ := hrel
    by_cases hlt : k < n
    · obtain ⟨fid, fss, fn⟩ := HF.out k hlt
      have FSS := Lib.hid fss
      clear fss
      have fss := FSS.out
      obtain ⟨b, o, rfl, hrow⟩ := H.out (by omega)
      obtain ⟨AK, CK, c0, c1, c2, c3⟩ := (hrow k hlt).keep hbr
      have HR := Lib.hid hrow
      clear hrow
      cases q1 : meltV (f k)
      · have HK : Hid (meltAt' f k = false) := Lib.hid (by simp [meltAt', goodAt, q1])
        have q2 : meltV ⟨(f k).id, (f k).n, (f k).ss, (f k).ma⟩ = false := q1
        go_wp2_with fail
        refine wp_gen (fun W0 hW0 => ?_)
        have s0_ : Below w.heap.size w W0 := by rw [hW0]; exact hbr.alloc hbr.size _
        have s1_ : StrRow W0 AK (f k).n (f k).ss := by rw [hW0]; exact c3.keep ((Below.refl _ _).alloc (Nat.le_refl _) _)
        have s2_ : Blk W0 wr.heap.size 74 #[.string (f k).id, .slice AK (f k).n CK, .int .i64 (f k).ma] := by rw [hW0]; exact Blk.new _ _ _
        have s3_ : wr.heap.size < W0.heap.size := by rw [hW0]; simp
        have s4_ : MeltRow W0 (some ⟨b, o, none⟩) n f := by rw [hW0]; exact (H.out.keep hbr).keep ((Below.refl _ _).alloc (Nat.le_refl _) _)
        have s5_ : W0.cell? ⟨wr.heap.size, 0, none⟩ = some (.string (f k).id) := (s2_.cell 0).trans rfl
        have s6_ : W0.cell? ⟨wr.heap.size, 1, none⟩ = some (.slice AK (f k).n CK) := (s2_.cell 1).trans rfl
        have s7_ : W0.cell? ⟨wr.heap.size, 2, none⟩ = some (.int .i64 (f k).ma) := (s2_.cell 2).trans rfl
        skip
        clear hW0
        refine wp_region_held_drew (S := fun w' => Below w.heap.size w w' ∧ StrRow w' AK (f k).n (f k).ss ∧ Blk w' wr.heap.size 74 #[.string (f k).id, .slice AK (f k).n CK, .int .i64 (f k).ma] ∧ wr.heap.size < w'.heap.size ∧ MeltRow w' (some ⟨b, o, none⟩) n f ∧ w'.cell? ⟨wr.heap.size, 0, none⟩ = some (.string (f k).id) ∧ w'.cell? ⟨wr.heap.size, 1, none⟩ = some (.slice AK (f k).n CK) ∧ w'.cell? ⟨wr.heap.size, 2, none⟩ = some (.int .i64 (f k).ma)) (by kernel_rfl) ?_ (fun hHeld => ?_)
        · exact ⟨s0_.drew, s1_, s2_, s3_, s4_, s5_, s6_, s7_⟩
        clear s0_ s1_ s2_ s3_ s4_ s5_ s6_ s7_
        refine take_yes (i := 0) (d := 12) (v := ?_) _ rfl rfl (by kernel_rfl) (by kernel_rfl) (by kernel_rfl) (fun _ _ _ _ h => h) (by rfl) ?_ (by assumption) ?_
        rotate_left 1
        · ((intro w hSw; (try dsimp only at hSw); go_simp) <;> (try with_reducible rfl))
        (try simp only [Act.put, List.setIfInBounds_toArray, List.set_cons_zero, List.set_cons_succ])
        (refine wpAnyH_ready (rs := [1]) (by kernel_rfl) (by simp) ?_; refine AllReadyH.cons rfl (fun K hK => ?_) AllReadyH.nil; go_simp; go_at_call 48; refine (ValidMelt_calls _ _ _ _ _ _ _ fid hHeld.2.1 fss fn).mono ?_; simp only [q2]; rintro e wd ⟨rfl, hb⟩; refine hK.out _ _ (by obtain ⟨x0_, x1_, x2_, x3_, x4_, x5_, x6_, x7_⟩ := hHeld; exact ⟨x0_.trans (hb.mono x0_.size), x1_.keep hb, x2_.keep hb, Nat.lt_of_lt_of_le x3_ hb.size, x4_.keep hb, cell_keep hb x5_, cell_keep hb x6_, cell_keep hb x7_⟩) (fun hHeld2 => ?_); clear hK K hHeld hb; have hHeld := hHeld2; clear hHeld2; (try simp only [Act.put, List.setIfInBounds_toArray, List.set_cons_zero, List.set_cons_succ]))
        refine take_yes (i := 2) (d := 14) (v := ?_) _ rfl rfl (by kernel_rfl) (by kernel_rfl) (by kernel_rfl) (fun _ _ _ _ h => h) (by rfl) ?_ (by assumption) ?_
        rotate_left 1
        · ((intro w hSw; (try dsimp only at hSw); go_simp) <;> (try with_reducible rfl))
        (try simp only [Act.put, List.setIfInBounds_toArray, List.set_cons_zero, List.set_cons_succ])
        refine take_yes (i := 3) (d := 15) (v := ?_) _ rfl rfl (by kernel_rfl) (by kernel_rfl) (by kernel_rfl) (fun _ _ _ _ h => h) (by rfl) ?_ (by assumption) ?_
        rotate_left 1
        · ((intro w hSw; (try dsimp only at hSw); go_simp) <;> (try with_reducible rfl))
        (try simp only [Act.put, List.setIfInBounds_toArray, List.set_cons_zero, List.set_cons_succ])
        (refine take_no (i := 4) (d := 16) _ rfl rfl (by kernel_rfl) (by kernel_rfl) (by kernel_rfl) (fun _ _ _ _ h => h) (by rfl) (by assumption) ?_; (try simp only [Act.put, List.setIfInBounds_toArray, List.set_cons_zero, List.set_cons_succ]))
        (refine take_no (i := 5) (d := 17) _ rfl rfl (by kernel_rfl) (by kernel_rfl) (by kernel_rfl) (fun _ _ _ _ h => h) (by rfl) (by assumption) ?_; (try simp only [Act.put, List.setIfInBounds_toArray, List.set_cons_zero, List.set_cons_succ]))
        (refine take_no (i := 6) (d := 18) _ rfl rfl (by kernel_rfl) (by kernel_rfl) (by kernel_rfl) (fun _ _ _ _ h => h) (by rfl) (by assumption) ?_; (try simp only [Act.put, List.setIfInBounds_toArray, List.set_cons_zero, List.set_cons_succ]))
        (refine take_no (i := 7) (d := 19) _ rfl rfl (by kernel_rfl) (by kernel_rfl) (by kernel_rfl) (fun _ _ _ _ h => h) (by rfl) (by assumption) ?_; (try simp only [Act.put, List.setIfInBounds_toArray, List.set_cons_zero, List.set_cons_succ]))
        (refine take_no (i := 8) (d := 20) _ rfl rfl (by kernel_rfl) (by kernel_rfl) (by kernel_rfl) (fun _ _ _ _ h => h) (by rfl) (by assumption) ?_; (try simp only [Act.put, List.setIfInBounds_toArray, List.set_cons_zero, List.set_cons_succ]))
        (refine take_no (i := 9) (d := 21) _ rfl rfl (by kernel_rfl) (by kernel_rfl) (by kernel_rfl) (fun _ _ _ _ h => h) (by rfl) (by assumption) ?_; (try simp only [Act.put, List.setIfInBounds_toArray, List.set_cons_zero, List.set_cons_succ]))
        (refine take_no (i := 10) (d := 22) _ rfl rfl (by kernel_rfl) (by kernel_rfl) (by kernel_rfl) (fun _ _ _ _ h => h) (by rfl) (by assumption) ?_; (try simp only [Act.put, List.setIfInBounds_toArray, List.set_cons_zero, List.set_cons_succ]))
        (refine take_no (i := 11) (d := 23) _ rfl rfl (by kernel_rfl) (by kernel_rfl) (by kernel_rfl) (fun _ _ _ _ h => h) (by rfl) (by assumption) ?_; (try simp only [Act.put, List.setIfInBounds_toArray, List.set_cons_zero, List.set_cons_succ]))
        (refine take_no (i := 12) (d := 24) _ rfl rfl (by kernel_rfl) (by kernel_rfl) (by kernel_rfl) (fun _ _ _ _ h => h) (by rfl) (by assumption) ?_; (try simp only [Act.put, List.setIfInBounds_toArray, List.set_cons_zero, List.set_cons_succ]))
        (refine take_no (i := 13) (d := 25) _ rfl rfl (by kernel_rfl) (by kernel_rfl) (by kernel_rfl) (fun _ _ _ _ h => h) (by rfl) (by assumption) ?_; (try simp only [Act.put, List.setIfInBounds_toArray, List.set_cons_zero, List.set_cons_succ]))
        (refine take_no (i := 14) (d := 26) _ rfl rfl (by kernel_rfl) (by kernel_rfl) (by kernel_rfl) (fun _ _ _ _ h => h) (by rfl) (by assumption) ?_; (try simp only [Act.put, List.setIfInBounds_toArray, List.set_cons_zero, List.set_cons_succ]))
        (refine take_no (i := 15) (d := 27) _ rfl rfl (by kernel_rfl) (by kernel_rfl) (by kernel_rfl) (fun _ _ _ _ h => h) (by rfl) (by assumption) ?_; (try simp only [Act.put, List.setIfInBounds_toArray, List.set_cons_zero, List.set_cons_succ]))
        (refine take_no (i := 16) (d := 28) _ rfl rfl (by kernel_rfl) (by kernel_rfl) (by kernel_rfl) (fun _ _ _ _ h => h) (by rfl) (by assumption) ?_; (try simp only [Act.put, List.setIfInBounds_toArray, List.set_cons_zero, List.set_cons_succ]))
        refine take_yes (i := 17) (d := 29) (v := ?_) _ rfl rfl (by kernel_rfl) (by kernel_rfl) (by kernel_rfl) (fun _ _ _ _ h => h) (by rfl) ?_ (by assumption) ?_
        rotate_left 1
        · ((intro w hSw; (try dsimp only at hSw); go_simp) <;> (try with_reducible rfl))
        (try simp only [Act.put, List.setIfInBounds_toArray, List.set_cons_zero, List.set_cons_succ])
        refine wpAnyH_done (by kernel_rfl) ?_ _
        obtain ⟨z0, z1, z2, z3, z4, z5, z6, z7⟩ := hHeld
        go_wp2
        go_ret
        exact ⟨ret_bool (by rw [← HRES.out]; exact (okMelts_no hlt HK.out).symm), z0⟩
      · have q2 : meltV ⟨(f k).id, (f k).n, (f k).ss, (f k).ma⟩ = true := q1
        rcases Nat.eq_zero_or_pos k with hz | hz
        · have hd1 : decide ((0 : Int) < (k : Int)) = false := decide_eq_false (by omega)
          have hd2 : decide (0 < k) = false := decide_eq_false (by omega)
          have HK : Hid (goodAt (fun i => meltV (f i)) (fun i => (f i).id) k = true) := Lib.hid (by subst hz; simp [goodAt, q1])
          clear hz
          go_wp2_with fail
          refine wp_gen (fun W0 hW0 => ?_)
          have s0_ : Below w.heap.size w W0 := by rw [hW0]; exact hbr.alloc hbr.size _
          have s1_ : StrRow W0 AK (f k).n (f k).ss := by rw [hW0]; exact c3.keep ((Below.refl _ _).alloc (Nat.le_refl _) _)
          have s2_ : Blk W0 wr.heap.size 74 #[.string (f k).id, .slice AK (f k).n CK, .int .i64 (f k).ma] := by rw [hW0]; exact Blk.new _ _ _
          have s3_ : wr.heap.size < W0.heap.size := by rw [hW0]; simp
          have s4_ : MeltRow W0 (some ⟨b, o, none⟩) n f := by rw [hW0]; exact (H.out.keep hbr).keep ((Below.refl _ _).alloc (Nat.le_refl _) _)
          have s5_ : W0.cell? ⟨wr.heap.size, 0, none⟩ = some (.string (f k).id) := (s2_.cell 0).trans rfl
          have s6_ : W0.cell? ⟨wr.heap.size, 1, none⟩ = some (.slice AK (f k).n CK) := (s2_.cell 1).trans rfl
          have s7_ : W0.cell? ⟨wr.heap.size, 2, none⟩ = some (.int .i64 (f k).ma) := (s2_.cell 2).trans rfl
          skip
          clear hW0
          refine wp_region_held_drew (S := fun w' => Below w.heap.size w w' ∧ StrRow w' AK (f k).n (f k).ss ∧ Blk w' wr.heap.size 74 #[.string (f k).id, .slice AK (f k).n CK, .int .i64 (f k).ma] ∧ wr.heap.size < w'.heap.size ∧ MeltRow w' (some ⟨b, o, none⟩) n f ∧ w'.cell? ⟨wr.heap.size, 0, none⟩ = some (.string (f k).id) ∧ w'.cell? ⟨wr.heap.size, 1, none⟩ = some (.slice AK (f k).n CK) ∧ w'.cell? ⟨wr.heap.size, 2, none⟩ = some (.int .i64 (f k).ma)) (by kernel_rfl) ?_ (fun hHeld => ?_)
          · exact ⟨s0_.drew, s1_, s2_, s3_, s4_, s5_, s6_, s7_⟩
          clear s0_ s1_ s2_ s3_ s4_ s5_ s6_ s7_
          refine take_yes (i := 0) (d := 12) (v := ?_) _ rfl rfl (by kernel_rfl) (by kernel_rfl) (by kernel_rfl) (fun _ _ _ _ h => h) (by rfl) ?_ (by assumption) ?_
          rotate_left 1
          · ((intro w hSw; (try dsimp only at hSw); go_simp) <;> (try with_reducible rfl))
          (try simp only [Act.put, List.setIfInBounds_toArray, List.set_cons_zero, List.set_cons_succ])
          (refine wpAnyH_ready (rs := [1]) (by kernel_rfl) (by simp) ?_; refine AllReadyH.cons rfl (fun K hK => ?_) AllReadyH.nil; go_simp; go_at_call 48; refine (ValidMelt_calls _ _ _ _ _ _ _ fid hHeld.2.1 fss fn).mono ?_; simp only [q2]; rintro e wd ⟨rfl, hb⟩; refine hK.out _ _ (by obtain ⟨x0_, x1_, x2_, x3_, x4_, x5_, x6_, x7_⟩ := hHeld; exact ⟨x0_.trans (hb.mono x0_.size), x1_.keep hb, x2_.keep hb, Nat.lt_of_lt_of_le x3_ hb.size, x4_.keep hb, cell_keep hb x5_, cell_keep hb x6_, cell_keep hb x7_⟩) (fun hHeld2 => ?_); clear hK K hHeld hb; have hHeld := hHeld2; clear hHeld2; (try simp only [Act.put, List.setIfInBounds_toArray, List.set_cons_zero, List.set_cons_succ]))
          refine take_yes (i := 2) (d := 14) (v := ?_) _ rfl rfl (by kernel_rfl) (by kernel_rfl) (by kernel_rfl) (fun _ _ _ _ h => h) (by rfl) ?_ (by assumption) ?_
          rotate_left 1
          · ((intro w hSw; (try dsimp only at hSw); go_simp) <;> (try with_reducible rfl))
          (try simp only [Act.put, List.setIfInBounds_toArray, List.set_cons_zero, List.set_cons_succ])
          refine take_yes (i := 3) (d := 15) (v := ?_) _ rfl rfl (by kernel_rfl) (by kernel_rfl) (by kernel_rfl) (fun _ _ _ _ h => h) (by rfl) ?_ (by assumption) ?_
          rotate_left 1
          · ((intro w hSw; (try dsimp only at hSw); go_simp) <;> (try with_reducible rfl))
          (try simp only [Act.put, List.setIfInBounds_toArray, List.set_cons_zero, List.set_cons_succ])
          refine take_yes (i := 4) (d := 16) (v := ?_) _ rfl rfl (by kernel_rfl) (by kernel_rfl) (by kernel_rfl) (fun _ _ _ _ h => h) (by rfl) ?_ (by assumption) ?_
          rotate_left 1
          · ((intro w hSw; (try dsimp only at hSw); go_simp) <;> (try with_reducible rfl))
          (try simp only [Act.put, List.setIfInBounds_toArray, List.set_cons_zero, List.set_cons_succ])
          refine take_yes (i := 5) (d := 17) (v := ?_) _ rfl rfl (by kernel_rfl) (by kernel_rfl) (by kernel_rfl) (fun _ _ _ _ h => h) (by rfl) ?_ (by assumption) ?_
          rotate_left 1
          · ((intro w hSw; (try dsimp only at hSw); go_simp) <;> (try with_reducible rfl))
          (try simp only [Act.put, List.setIfInBounds_toArray, List.set_cons_zero, List.set_cons_succ])
          refine take_yes (i := 6) (d := 18) (v := ?_) _ rfl rfl (by kernel_rfl) (by kernel_rfl) (by kernel_rfl) (fun _ _ _ _ h => h) (by rfl) ?_ (by assumption) ?_
          rotate_left 1
          · ((intro w hSw; (try dsimp only at hSw); go_simp) <;> (try with_reducible rfl))
          (try simp only [Act.put, List.setIfInBounds_toArray, List.set_cons_zero, List.set_cons_succ])
          (refine take_no (i := 7) (d := 19) _ rfl rfl (by kernel_rfl) (by kernel_rfl) (by kernel_rfl) (fun _ _ _ _ h => h) (by rfl) (by assumption) ?_; (try simp only [Act.put, List.setIfInBounds_toArray, List.set_cons_zero, List.set_cons_succ]))
          (refine take_no (i := 8) (d := 20) _ rfl rfl (by kernel_rfl) (by kernel_rfl) (by kernel_rfl) (fun _ _ _ _ h => h) (by rfl) (by assumption) ?_; (try simp only [Act.put, List.setIfInBounds_toArray, List.set_cons_zero, List.set_cons_succ]))
          (refine take_no (i := 9) (d := 21) _ rfl rfl (by kernel_rfl) (by kernel_rfl) (by kernel_rfl) (fun _ _ _ _ h => h) (by rfl) (by assumption) ?_; (try simp only [Act.put, List.setIfInBounds_toArray, List.set_cons_zero, List.set_cons_succ]))
          (refine take_no (i := 10) (d := 22) _ rfl rfl (by kernel_rfl) (by kernel_rfl) (by kernel_rfl) (fun _ _ _ _ h => h) (by rfl) (by assumption) ?_; (try simp only [Act.put, List.setIfInBounds_toArray, List.set_cons_zero, List.set_cons_succ]))
          (refine take_no (i := 11) (d := 23) _ rfl rfl (by kernel_rfl) (by kernel_rfl) (by kernel_rfl) (fun _ _ _ _ h => h) (by rfl) (by assumption) ?_; (try simp only [Act.put, List.setIfInBounds_toArray, List.set_cons_zero, List.set_cons_succ]))
          (refine take_no (i := 12) (d := 24) _ rfl rfl (by kernel_rfl) (by kernel_rfl) (by kernel_rfl) (fun _ _ _ _ h => h) (by rfl) (by assumption) ?_; (try simp only [Act.put, List.setIfInBounds_toArray, List.set_cons_zero, List.set_cons_succ]))
          (refine take_no (i := 13) (d := 25) _ rfl rfl (by kernel_rfl) (by kernel_rfl) (by kernel_rfl) (fun _ _ _ _ h => h) (by rfl) (by assumption) ?_; (try simp only [Act.put, List.setIfInBounds_toArray, List.set_cons_zero, List.set_cons_succ]))
          (refine take_no (i := 14) (d := 26) _ rfl rfl (by kernel_rfl) (by kernel_rfl) (by kernel_rfl) (fun _ _ _ _ h => h) (by rfl) (by assumption) ?_; (try simp only [Act.put, List.setIfInBounds_toArray, List.set_cons_zero, List.set_cons_succ]))
          (refine take_no (i := 15) (d := 27) _ rfl rfl (by kernel_rfl) (by kernel_rfl) (by kernel_rfl) (fun _ _ _ _ h => h) (by rfl) (by assumption) ?_; (try simp only [Act.put, List.setIfInBounds_toArray, List.set_cons_zero, List.set_cons_succ]))
          refine take_yes (i := 16) (d := 28) (v := ?_) _ rfl rfl (by kernel_rfl) (by kernel_rfl) (by kernel_rfl) (fun _ _ _ _ h => h) (by rfl) ?_ (by assumption) ?_
          rotate_left 1
          · ((intro w hSw; (try dsimp only at hSw); go_simp) <;> (try with_reducible rfl))
          (try simp only [Act.put, List.setIfInBounds_toArray, List.set_cons_zero, List.set_cons_succ])
          refine take_yes (i := 17) (d := 29) (v := ?_) _ rfl rfl (by kernel_rfl) (by kernel_rfl) (by kernel_rfl) (fun _ _ _ _ h => h) (by rfl) ?_ (by assumption) ?_
          rotate_left 1
          · ((intro w hSw; (try dsimp only at hSw); go_simp) <;> (try with_reducible rfl))
          (try simp only [Act.put, List.setIfInBounds_toArray, List.set_cons_zero, List.set_cons_succ])
          refine wpAnyH_done (by kernel_rfl) ?_ _
          obtain ⟨z0, z1, z2, z3, z4, z5, z6, z7⟩ := hHeld
          have hsl : ∀ W, Below w.heap.size w W → StrRow W AK (f k).n (f k).ss → Blk W wr.heap.size 74 #[.string (f k).id, .slice AK (f k).n CK, .int .i64 (f k).ma] → MeltRow W (some ⟨b, o, none⟩) n f → ∀ cc, Calls Tryz.prog 49 #[.slice (some ⟨b, o, none⟩) k cc, .func (.func 50) #[] #[.pointer (some ⟨wr.heap.size, 0, none⟩)]] W fun e w' => e = .returned (.bool (anyB (fun j => commonB (f k) (f j)) k)) ∧ Below W.heap.size W w' := fun W h0 h1 h2 h3 cc => anyMelt _ k cc f _ _ W (h3.take (by omega)) (by omega) (fun j W2 AJ CJ hj hb hsr => validMelts1_calls wr.heap.size (f k).id AK (f k).n CK (f k).ss (f k).ma (f j).id AJ (f j).n CJ (f j).ss (f j).ma W2 (h2.keep hb) (h1.keep hb) fn hsr (HF.out j (by omega)).2.2)
          have HSL := Lib.hid (fun cc => hsl _ z0 z1 z2 z4 cc)
          clear hsl
          cases q5 : anyB (fun j => commonB (f k) (f j)) k
          · rw [q5] at HSL
            go_wp2_with (go_at_call 49; with_reducible refine (HSL.out _).mono ?_; rintro e w5 ⟨rfl, hb5⟩; have z9 := z0.trans (hb5.mono z0.size); clear hb5)
            go_roundw
            case rel => exact ⟨k + 1, by omega, by go_num, Lib.hid (meltsOk_up hgood.out (by unfold meltAt'; rw [HK.out, q5]; rfl)), z9⟩
            case measure => simp [intOf]; omega
          · rw [q5] at HSL
            go_wp2_with (go_at_call 49; with_reducible refine (HSL.out _).mono ?_; rintro e w5 ⟨rfl, hb5⟩; have z9 := z0.trans (hb5.mono z0.size); clear hb5)
            go_ret
            exact ⟨ret_bool (by rw [← HRES.out]; exact (okMelts_no hlt (by unfold meltAt'; rw [q5]; simp)).symm), z9⟩
        · obtain ⟨j, hj⟩ : ∃ j, k = j + 1 := ⟨k - 1, by omega⟩
          obtain ⟨-, -, pr, -⟩ := (HR.out j (by omega)).keep hbr
          have hd1 : decide ((0 : Int) < (k : Int)) = true := decide_eq_true (by omega)
          have hd2 : decide (0 < k) = true := decide_eq_true (by omega)
          have hw : IntKind.i64.wrap ((k : Int) - 1) = (j : Int) := (IntWalk.i64_in _ ⟨by omega, by omega⟩).trans (by omega)
          have hjn : j < n := by omega
          have hg : goodAt (fun i => meltV (f i)) (fun i => (f i).id) k = Op.bytesLess (f j).id.toList (f k).id.toList := by subst hj; simp [goodAt, q1]
          clear hj hz
          have hle := less_total (f k).id.toList (f j).id.toList
          cases q3 : (Op.bytesLess (f k).id.toList (f j).id.toList || (f k).id.toList == (f j).id.toList)
          · have HK := Lib.hid (show goodAt (fun i => meltV (f i)) (fun i => (f i).id) k = true by rw [q3] at hle; rw [hg]; simpa using hle)
            clear hg hle
            go_wp2_with fail
            refine wp_gen (fun W0 hW0 => ?_)
            have s0_ : Below w.heap.size w W0 := by rw [hW0]; exact hbr.alloc hbr.size _
            have s1_ : StrRow W0 AK (f k).n (f k).ss := by rw [hW0]; exact c3.keep ((Below.refl _ _).alloc (Nat.le_refl _) _)
            have s2_ : Blk W0 wr.heap.size 74 #[.string (f k).id, .slice AK (f k).n CK, .int .i64 (f k).ma] := by rw [hW0]; exact Blk.new _ _ _
            have s3_ : wr.heap.size < W0.heap.size := by rw [hW0]; simp
            have s4_ : MeltRow W0 (some ⟨b, o, none⟩) n f := by rw [hW0]; exact (H.out.keep hbr).keep ((Below.refl _ _).alloc (Nat.le_refl _) _)
            have s5_ : W0.cell? ⟨wr.heap.size, 0, none⟩ = some (.string (f k).id) := (s2_.cell 0).trans rfl
            have s6_ : W0.cell? ⟨wr.heap.size, 1, none⟩ = some (.slice AK (f k).n CK) := (s2_.cell 1).trans rfl
            have s7_ : W0.cell? ⟨wr.heap.size, 2, none⟩ = some (.int .i64 (f k).ma) := (s2_.cell 2).trans rfl
            have s8_ : W0.cell? ⟨b, o + j * 3, none⟩ = some (.string (f j).id) := by rw [hW0]; exact cell_keep ((Below.refl _ _).alloc (Nat.le_refl _) _) pr
            clear hW0
            refine wp_region_held_drew (S := fun w' => Below w.heap.size w w' ∧ StrRow w' AK (f k).n (f k).ss ∧ Blk w' wr.heap.size 74 #[.string (f k).id, .slice AK (f k).n CK, .int .i64 (f k).ma] ∧ wr.heap.size < w'.heap.size ∧ MeltRow w' (some ⟨b, o, none⟩) n f ∧ w'.cell? ⟨wr.heap.size, 0, none⟩ = some (.string (f k).id) ∧ w'.cell? ⟨wr.heap.size, 1, none⟩ = some (.slice AK (f k).n CK) ∧ w'.cell? ⟨wr.heap.size, 2, none⟩ = some (.int .i64 (f k).ma) ∧ w'.cell? ⟨b, o + j * 3, none⟩ = some (.string (f j).id)) (by kernel_rfl) ?_ (fun hHeld => ?_)
            · exact ⟨s0_.drew, s1_, s2_, s3_, s4_, s5_, s6_, s7_, s8_⟩
            clear s0_ s1_ s2_ s3_ s4_ s5_ s6_ s7_ s8_
            refine take_yes (i := 0) (d := 12) (v := ?_) _ rfl rfl (by kernel_rfl) (by kernel_rfl) (by kernel_rfl) (fun _ _ _ _ h => h) (by rfl) ?_ (by assumption) ?_
            rotate_left 1
            · ((intro w hSw; (try dsimp only at hSw); go_simp) <;> (try with_reducible rfl))
            (try simp only [Act.put, List.setIfInBounds_toArray, List.set_cons_zero, List.set_cons_succ])
            (refine wpAnyH_ready (rs := [1]) (by kernel_rfl) (by simp) ?_; refine AllReadyH.cons rfl (fun K hK => ?_) AllReadyH.nil; go_simp; go_at_call 48; refine (ValidMelt_calls _ _ _ _ _ _ _ fid hHeld.2.1 fss fn).mono ?_; simp only [q2]; rintro e wd ⟨rfl, hb⟩; refine hK.out _ _ (by obtain ⟨x0_, x1_, x2_, x3_, x4_, x5_, x6_, x7_, x8_⟩ := hHeld; exact ⟨x0_.trans (hb.mono x0_.size), x1_.keep hb, x2_.keep hb, Nat.lt_of_lt_of_le x3_ hb.size, x4_.keep hb, cell_keep hb x5_, cell_keep hb x6_, cell_keep hb x7_, cell_keep hb x8_⟩) (fun hHeld2 => ?_); clear hK K hHeld hb; have hHeld := hHeld2; clear hHeld2; (try simp only [Act.put, List.setIfInBounds_toArray, List.set_cons_zero, List.set_cons_succ]))
            refine take_yes (i := 2) (d := 14) (v := ?_) _ rfl rfl (by kernel_rfl) (by kernel_rfl) (by kernel_rfl) (fun _ _ _ _ h => h) (by rfl) ?_ (by assumption) ?_
            rotate_left 1
            · ((intro w hSw; (try dsimp only at hSw); go_simp) <;> (try with_reducible rfl))
            (try simp only [Act.put, List.setIfInBounds_toArray, List.set_cons_zero, List.set_cons_succ])
            refine take_yes (i := 3) (d := 15) (v := ?_) _ rfl rfl (by kernel_rfl) (by kernel_rfl) (by kernel_rfl) (fun _ _ _ _ h => h) (by rfl) ?_ (by assumption) ?_
            rotate_left 1
            · ((intro w hSw; (try dsimp only at hSw); go_simp) <;> (try with_reducible rfl))
            (try simp only [Act.put, List.setIfInBounds_toArray, List.set_cons_zero, List.set_cons_succ])
            refine take_yes (i := 4) (d := 16) (v := ?_) _ rfl rfl (by kernel_rfl) (by kernel_rfl) (by kernel_rfl) (fun _ _ _ _ h => h) (by rfl) ?_ (by assumption) ?_
            rotate_left 1
            · ((intro w hSw; (try dsimp only at hSw); go_simp) <;> (try with_reducible rfl))
            (try simp only [Act.put, List.setIfInBounds_toArray, List.set_cons_zero, List.set_cons_succ])
            refine take_yes (i := 5) (d := 17) (v := ?_) _ rfl rfl (by kernel_rfl) (by kernel_rfl) (by kernel_rfl) (fun _ _ _ _ h => h) (by rfl) ?_ (by assumption) ?_
            rotate_left 1
            · ((intro w hSw; (try dsimp only at hSw); go_simp) <;> (try with_reducible rfl))
            (try simp only [Act.put, List.setIfInBounds_toArray, List.set_cons_zero, List.set_cons_succ])
            refine take_yes (i := 6) (d := 18) (v := ?_) _ rfl rfl (by kernel_rfl) (by kernel_rfl) (by kernel_rfl) (fun _ _ _ _ h => h) (by rfl) ?_ (by assumption) ?_
            rotate_left 1
            · ((intro w hSw; (try dsimp only at hSw); go_simp) <;> (try with_reducible rfl))
            (try simp only [Act.put, List.setIfInBounds_toArray, List.set_cons_zero, List.set_cons_succ])
            refine take_yes (i := 7) (d := 19) (v := ?_) _ rfl rfl (by kernel_rfl) (by kernel_rfl) (by kernel_rfl) (fun _ _ _ _ h => h) (by rfl) ?_ (by assumption) ?_
            rotate_left 1
            · ((intro w hSw; (try dsimp only at hSw); go_simp) <;> (try with_reducible rfl))
            (try simp only [Act.put, List.setIfInBounds_toArray, List.set_cons_zero, List.set_cons_succ])
            refine take_yes (i := 8) (d := 20) (v := ?_) _ rfl rfl (by kernel_rfl) (by kernel_rfl) (by kernel_rfl) (fun _ _ _ _ h => h) (by rfl) ?_ (by assumption) ?_
            rotate_left 1
            · ((intro w hSw; (try dsimp only at hSw); go_simp) <;> (try with_reducible rfl))
            (try simp only [Act.put, List.setIfInBounds_toArray, List.set_cons_zero, List.set_cons_succ])
            refine take_yes (i := 9) (d := 21) (v := ?_) _ rfl rfl (by kernel_rfl) (by kernel_rfl) (by kernel_rfl) (fun _ _ _ _ h => h) (by rfl) ?_ (by assumption) ?_
            rotate_left 1
            · ((intro w hSw; (try dsimp only at hSw); go_simp) <;> (try with_reducible rfl))
            (try simp only [Act.put, List.setIfInBounds_toArray, List.set_cons_zero, List.set_cons_succ])
            refine take_yes (i := 10) (d := 22) (v := ?_) _ rfl rfl (by kernel_rfl) (by kernel_rfl) (by kernel_rfl) (fun _ _ _ _ h => h) (by rfl) ?_ (by assumption) ?_
            rotate_left 1
            · ((intro w hSw; (try dsimp only at hSw); go_simp) <;> (try with_reducible rfl))
            (try simp only [Act.put, List.setIfInBounds_toArray, List.set_cons_zero, List.set_cons_succ])
            refine take_yes (i := 11) (d := 23) (v := ?_) _ rfl rfl (by kernel_rfl) (by kernel_rfl) (by kernel_rfl) (fun _ _ _ _ h => h) (by rfl) ?_ (by assumption) ?_
            rotate_left 1
            · ((intro w hSw; (try dsimp only at hSw); go_simp) <;> (try with_reducible rfl))
            (try simp only [Act.put, List.setIfInBounds_toArray, List.set_cons_zero, List.set_cons_succ])
            refine take_yes (i := 12) (d := 24) (v := ?_) _ rfl rfl (by kernel_rfl) (by kernel_rfl) (by kernel_rfl) (fun _ _ _ _ h => h) (by rfl) ?_ (by assumption) ?_
            rotate_left 1
            · ((intro w hSw; (try dsimp only at hSw); go_simp) <;> (try with_reducible rfl))
            (try simp only [Act.put, List.setIfInBounds_toArray, List.set_cons_zero, List.set_cons_succ])
            refine take_yes (i := 13) (d := 25) (v := ?_) _ rfl rfl (by kernel_rfl) (by kernel_rfl) (by kernel_rfl) (fun _ _ _ _ h => h) (by rfl) ?_ (by assumption) ?_
            rotate_left 1
            · ((intro w hSw; (try dsimp only at hSw); go_simp) <;> (try with_reducible rfl))
            (try simp only [Act.put, List.setIfInBounds_toArray, List.set_cons_zero, List.set_cons_succ])
            refine take_yes (i := 14) (d := 26) (v := ?_) _ rfl rfl (by kernel_rfl) (by kernel_rfl) (by kernel_rfl) (fun _ _ _ _ h => h) (by rfl) ?_ (by assumption) ?_
            rotate_left 1
            · ((intro w hSw; (try dsimp only at hSw); go_simp) <;> (try with_reducible rfl))
            (try simp only [Act.put, List.setIfInBounds_toArray, List.set_cons_zero, List.set_cons_succ])
            refine take_yes (i := 15) (d := 27) (v := ?_) _ rfl rfl (by kernel_rfl) (by kernel_rfl) (by kernel_rfl) (fun _ _ _ _ h => h) (by rfl) ?_ (by assumption) ?_
            rotate_left 1
            · ((intro w hSw; (try dsimp only at hSw); go_simp) <;> (try with_reducible rfl))
            (try simp only [Act.put, List.setIfInBounds_toArray, List.set_cons_zero, List.set_cons_succ])
            refine take_yes (i := 16) (d := 28) (v := ?_) _ rfl rfl (by kernel_rfl) (by kernel_rfl) (by kernel_rfl) (fun _ _ _ _ h => h) (by rfl) ?_ (by assumption) ?_
            rotate_left 1
            · ((intro w hSw; (try dsimp only at hSw); go_simp) <;> (try with_reducible rfl))
            (try simp only [Act.put, List.setIfInBounds_toArray, List.set_cons_zero, List.set_cons_succ])
            refine take_yes (i := 17) (d := 29) (v := ?_) _ rfl rfl (by kernel_rfl) (by kernel_rfl) (by kernel_rfl) (fun _ _ _ _ h => h) (by rfl) ?_ (by assumption) ?_
            rotate_left 1
            · ((intro w hSw; (try dsimp only at hSw); go_simp) <;> (try with_reducible rfl))
            (try simp only [Act.put, List.setIfInBounds_toArray, List.set_cons_zero, List.set_cons_succ])
            refine wpAnyH_done (by kernel_rfl) ?_ _
            obtain ⟨z0, z1, z2, z3, z4, z5, z6, z7, z8⟩ := hHeld
            have hsl : ∀ W, Below w.heap.size w W → StrRow W AK (f k).n (f k).ss → Blk W wr.heap.size 74 #[.string (f k).id, .slice AK (f k).n CK, .int .i64 (f k).ma] → MeltRow W (some ⟨b, o, none⟩) n f → ∀ cc, Calls Tryz.prog 49 #[.slice (some ⟨b, o, none⟩) k cc, .func (.func 50) #[] #[.pointer (some ⟨wr.heap.size, 0, none⟩)]] W fun e w' => e = .returned (.bool (anyB (fun j => commonB (f k) (f j)) k)) ∧ Below W.heap.size W w' := fun W h0 h1 h2 h3 cc => anyMelt _ k cc f _ _ W (h3.take (by omega)) (by omega) (fun j W2 AJ CJ hj hb hsr => validMelts1_calls wr.heap.size (f k).id AK (f k).n CK (f k).ss (f k).ma (f j).id AJ (f j).n CJ (f j).ss (f j).ma W2 (h2.keep hb) (h1.keep hb) fn hsr (HF.out j (by omega)).2.2)
            have HSL := Lib.hid (fun cc => hsl _ z0 z1 z2 z4 cc)
            clear hsl
            cases q5 : anyB (fun j => commonB (f k) (f j)) k
            · rw [q5] at HSL
              go_wp2_with (go_at_call 49; with_reducible refine (HSL.out _).mono ?_; rintro e w5 ⟨rfl, hb5⟩; have z9 := z0.trans (hb5.mono z0.size); clear hb5)
              go_roundw
              case rel => exact ⟨k + 1, by omega, by go_num, Lib.hid (meltsOk_up hgood.out (by unfold meltAt'; rw [HK.out, q5]; rfl)), z9⟩
              case measure => simp [intOf]; omega
            · rw [q5] at HSL
              go_wp2_with (go_at_call 49; with_reducible refine (HSL.out _).mono ?_; rintro e w5 ⟨rfl, hb5⟩; have z9 := z0.trans (hb5.mono z0.size); clear hb5)
              go_ret
              exact ⟨ret_bool (by rw [← HRES.out]; exact (okMelts_no hlt (by unfold meltAt'; rw [q5]; simp)).symm), z9⟩
          · have HK := Lib.hid (show meltAt' f k = false by rw [q3] at hle; unfold meltAt'; rw [hg]; simp at hle; simp [hle])
            clear hg hle
            go_wp2_with fail
            refine wp_gen (fun W0 hW0 => ?_)
            have s0_ : Below w.heap.size w W0 := by rw [hW0]; exact hbr.alloc hbr.size _
            have s1_ : StrRow W0 AK (f k).n (f k).ss := by rw [hW0]; exact c3.keep ((Below.refl _ _).alloc (Nat.le_refl _) _)
            have s2_ : Blk W0 wr.heap.size 74 #[.string (f k).id, .slice AK (f k).n CK, .int .i64 (f k).ma] := by rw [hW0]; exact Blk.new _ _ _
            have s3_ : wr.heap.size < W0.heap.size := by rw [hW0]; simp
            have s4_ : MeltRow W0 (some ⟨b, o, none⟩) n f := by rw [hW0]; exact (H.out.keep hbr).keep ((Below.refl _ _).alloc (Nat.le_refl _) _)
            have s5_ : W0.cell? ⟨wr.heap.size, 0, none⟩ = some (.string (f k).id) := (s2_.cell 0).trans rfl
            have s6_ : W0.cell? ⟨wr.heap.size, 1, none⟩ = some (.slice AK (f k).n CK) := (s2_.cell 1).trans rfl
            have s7_ : W0.cell? ⟨wr.heap.size, 2, none⟩ = some (.int .i64 (f k).ma) := (s2_.cell 2).trans rfl
            have s8_ : W0.cell? ⟨b, o + j * 3, none⟩ = some (.string (f j).id) := by rw [hW0]; exact cell_keep ((Below.refl _ _).alloc (Nat.le_refl _) _) pr
            clear hW0
            refine wp_region_held_drew (S := fun w' => Below w.heap.size w w' ∧ StrRow w' AK (f k).n (f k).ss ∧ Blk w' wr.heap.size 74 #[.string (f k).id, .slice AK (f k).n CK, .int .i64 (f k).ma] ∧ wr.heap.size < w'.heap.size ∧ MeltRow w' (some ⟨b, o, none⟩) n f ∧ w'.cell? ⟨wr.heap.size, 0, none⟩ = some (.string (f k).id) ∧ w'.cell? ⟨wr.heap.size, 1, none⟩ = some (.slice AK (f k).n CK) ∧ w'.cell? ⟨wr.heap.size, 2, none⟩ = some (.int .i64 (f k).ma) ∧ w'.cell? ⟨b, o + j * 3, none⟩ = some (.string (f j).id)) (by kernel_rfl) ?_ (fun hHeld => ?_)
            · exact ⟨s0_.drew, s1_, s2_, s3_, s4_, s5_, s6_, s7_, s8_⟩
            clear s0_ s1_ s2_ s3_ s4_ s5_ s6_ s7_ s8_
            refine take_yes (i := 0) (d := 12) (v := ?_) _ rfl rfl (by kernel_rfl) (by kernel_rfl) (by kernel_rfl) (fun _ _ _ _ h => h) (by rfl) ?_ (by assumption) ?_
            rotate_left 1
            · ((intro w hSw; (try dsimp only at hSw); go_simp) <;> (try with_reducible rfl))
            (try simp only [Act.put, List.setIfInBounds_toArray, List.set_cons_zero, List.set_cons_succ])
            (refine wpAnyH_ready (rs := [1]) (by kernel_rfl) (by simp) ?_; refine AllReadyH.cons rfl (fun K hK => ?_) AllReadyH.nil; go_simp; go_at_call 48; refine (ValidMelt_calls _ _ _ _ _ _ _ fid hHeld.2.1 fss fn).mono ?_; simp only [q2]; rintro e wd ⟨rfl, hb⟩; refine hK.out _ _ (by obtain ⟨x0_, x1_, x2_, x3_, x4_, x5_, x6_, x7_, x8_⟩ := hHeld; exact ⟨x0_.trans (hb.mono x0_.size), x1_.keep hb, x2_.keep hb, Nat.lt_of_lt_of_le x3_ hb.size, x4_.keep hb, cell_keep hb x5_, cell_keep hb x6_, cell_keep hb x7_, cell_keep hb x8_⟩) (fun hHeld2 => ?_); clear hK K hHeld hb; have hHeld := hHeld2; clear hHeld2; (try simp only [Act.put, List.setIfInBounds_toArray, List.set_cons_zero, List.set_cons_succ]))
            refine take_yes (i := 2) (d := 14) (v := ?_) _ rfl rfl (by kernel_rfl) (by kernel_rfl) (by kernel_rfl) (fun _ _ _ _ h => h) (by rfl) ?_ (by assumption) ?_
            rotate_left 1
            · ((intro w hSw; (try dsimp only at hSw); go_simp) <;> (try with_reducible rfl))
            (try simp only [Act.put, List.setIfInBounds_toArray, List.set_cons_zero, List.set_cons_succ])
            refine take_yes (i := 3) (d := 15) (v := ?_) _ rfl rfl (by kernel_rfl) (by kernel_rfl) (by kernel_rfl) (fun _ _ _ _ h => h) (by rfl) ?_ (by assumption) ?_
            rotate_left 1
            · ((intro w hSw; (try dsimp only at hSw); go_simp) <;> (try with_reducible rfl))
            (try simp only [Act.put, List.setIfInBounds_toArray, List.set_cons_zero, List.set_cons_succ])
            refine take_yes (i := 4) (d := 16) (v := ?_) _ rfl rfl (by kernel_rfl) (by kernel_rfl) (by kernel_rfl) (fun _ _ _ _ h => h) (by rfl) ?_ (by assumption) ?_
            rotate_left 1
            · ((intro w hSw; (try dsimp only at hSw); go_simp) <;> (try with_reducible rfl))
            (try simp only [Act.put, List.setIfInBounds_toArray, List.set_cons_zero, List.set_cons_succ])
            refine take_yes (i := 5) (d := 17) (v := ?_) _ rfl rfl (by kernel_rfl) (by kernel_rfl) (by kernel_rfl) (fun _ _ _ _ h => h) (by rfl) ?_ (by assumption) ?_
            rotate_left 1
            · ((intro w hSw; (try dsimp only at hSw); go_simp) <;> (try with_reducible rfl))
            (try simp only [Act.put, List.setIfInBounds_toArray, List.set_cons_zero, List.set_cons_succ])
            refine take_yes (i := 6) (d := 18) (v := ?_) _ rfl rfl (by kernel_rfl) (by kernel_rfl) (by kernel_rfl) (fun _ _ _ _ h => h) (by rfl) ?_ (by assumption) ?_
            rotate_left 1
            · ((intro w hSw; (try dsimp only at hSw); go_simp) <;> (try with_reducible rfl))
            (try simp only [Act.put, List.setIfInBounds_toArray, List.set_cons_zero, List.set_cons_succ])
            refine take_yes (i := 7) (d := 19) (v := ?_) _ rfl rfl (by kernel_rfl) (by kernel_rfl) (by kernel_rfl) (fun _ _ _ _ h => h) (by rfl) ?_ (by assumption) ?_
            rotate_left 1
            · ((intro w hSw; (try dsimp only at hSw); go_simp) <;> (try with_reducible rfl))
            (try simp only [Act.put, List.setIfInBounds_toArray, List.set_cons_zero, List.set_cons_succ])
            refine take_yes (i := 8) (d := 20) (v := ?_) _ rfl rfl (by kernel_rfl) (by kernel_rfl) (by kernel_rfl) (fun _ _ _ _ h => h) (by rfl) ?_ (by assumption) ?_
            rotate_left 1
            · ((intro w hSw; (try dsimp only at hSw); go_simp) <;> (try with_reducible rfl))
            (try simp only [Act.put, List.setIfInBounds_toArray, List.set_cons_zero, List.set_cons_succ])
            refine take_yes (i := 9) (d := 21) (v := ?_) _ rfl rfl (by kernel_rfl) (by kernel_rfl) (by kernel_rfl) (fun _ _ _ _ h => h) (by rfl) ?_ (by assumption) ?_
            rotate_left 1
            · ((intro w hSw; (try dsimp only at hSw); go_simp) <;> (try with_reducible rfl))
            (try simp only [Act.put, List.setIfInBounds_toArray, List.set_cons_zero, List.set_cons_succ])
            refine take_yes (i := 10) (d := 22) (v := ?_) _ rfl rfl (by kernel_rfl) (by kernel_rfl) (by kernel_rfl) (fun _ _ _ _ h => h) (by rfl) ?_ (by assumption) ?_
            rotate_left 1
            · ((intro w hSw; (try dsimp only at hSw); go_simp) <;> (try with_reducible rfl))
            (try simp only [Act.put, List.setIfInBounds_toArray, List.set_cons_zero, List.set_cons_succ])
            refine take_yes (i := 11) (d := 23) (v := ?_) _ rfl rfl (by kernel_rfl) (by kernel_rfl) (by kernel_rfl) (fun _ _ _ _ h => h) (by rfl) ?_ (by assumption) ?_
            rotate_left 1
            · ((intro w hSw; (try dsimp only at hSw); go_simp) <;> (try with_reducible rfl))
            (try simp only [Act.put, List.setIfInBounds_toArray, List.set_cons_zero, List.set_cons_succ])
            refine take_yes (i := 12) (d := 24) (v := ?_) _ rfl rfl (by kernel_rfl) (by kernel_rfl) (by kernel_rfl) (fun _ _ _ _ h => h) (by rfl) ?_ (by assumption) ?_
            rotate_left 1
            · ((intro w hSw; (try dsimp only at hSw); go_simp) <;> (try with_reducible rfl))
            (try simp only [Act.put, List.setIfInBounds_toArray, List.set_cons_zero, List.set_cons_succ])
            refine take_yes (i := 13) (d := 25) (v := ?_) _ rfl rfl (by kernel_rfl) (by kernel_rfl) (by kernel_rfl) (fun _ _ _ _ h => h) (by rfl) ?_ (by assumption) ?_
            rotate_left 1
            · ((intro w hSw; (try dsimp only at hSw); go_simp) <;> (try with_reducible rfl))
            (try simp only [Act.put, List.setIfInBounds_toArray, List.set_cons_zero, List.set_cons_succ])
            refine take_yes (i := 14) (d := 26) (v := ?_) _ rfl rfl (by kernel_rfl) (by kernel_rfl) (by kernel_rfl) (fun _ _ _ _ h => h) (by rfl) ?_ (by assumption) ?_
            rotate_left 1
            · ((intro w hSw; (try dsimp only at hSw); go_simp) <;> (try with_reducible rfl))
            (try simp only [Act.put, List.setIfInBounds_toArray, List.set_cons_zero, List.set_cons_succ])
            refine take_yes (i := 15) (d := 27) (v := ?_) _ rfl rfl (by kernel_rfl) (by kernel_rfl) (by kernel_rfl) (fun _ _ _ _ h => h) (by rfl) ?_ (by assumption) ?_
            rotate_left 1
            · ((intro w hSw; (try dsimp only at hSw); go_simp) <;> (try with_reducible rfl))
            (try simp only [Act.put, List.setIfInBounds_toArray, List.set_cons_zero, List.set_cons_succ])
            refine take_yes (i := 16) (d := 28) (v := ?_) _ rfl rfl (by kernel_rfl) (by kernel_rfl) (by kernel_rfl) (fun _ _ _ _ h => h) (by rfl) ?_ (by assumption) ?_
            rotate_left 1
            · ((intro w hSw; (try dsimp only at hSw); go_simp) <;> (try with_reducible rfl))
            (try simp only [Act.put, List.setIfInBounds_toArray, List.set_cons_zero, List.set_cons_succ])
            refine take_yes (i := 17) (d := 29) (v := ?_) _ rfl rfl (by kernel_rfl) (by kernel_rfl) (by kernel_rfl) (fun _ _ _ _ h => h) (by rfl) ?_ (by assumption) ?_
            rotate_left 1
            · ((intro w hSw; (try dsimp only at hSw); go_simp) <;> (try with_reducible rfl))
            (try simp only [Act.put, List.setIfInBounds_toArray, List.set_cons_zero, List.set_cons_succ])
            refine wpAnyH_done (by kernel_rfl) ?_ _
            obtain ⟨z0, z1, z2, z3, z4, z5, z6, z7, z8⟩ := hHeld
            go_wp2
            go_ret
            exact ⟨ret_bool (by rw [← HRES.out]; exact (okMelts_no hlt HK.out).symm), z0⟩
    · obtain rfl : k = n := by omega
      by_cases hm : (k : Int) ≤ 12
      all_goals
        go_wp2
        go_ret
        exact ⟨ret_bool (by rw [← HRES.out]; unfold okMelts; rw [hgood.out]; simp [hm] <;> omega), hbr⟩
end Go.Proofs.YticnpibkpfpojaaGreatDoor
