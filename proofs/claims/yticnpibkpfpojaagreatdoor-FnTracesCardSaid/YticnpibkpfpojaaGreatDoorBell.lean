/- Bells with their shares: which are valid, in the program and in the reference. For all fields and up to 2^20 shares. -/
import Derived.Test.YticnpibkpfpojaaGreatDoorShare
namespace Go.Proofs.YticnpibkpfpojaaGreatDoor
set_option linter.unusedVariables false
set_option linter.unusedSimpArgs false
open Go.RowKit

/-- a share by itself -/
noncomputable def shareB (s : ByteArray) (m : Int) : Bool := nameB s && inB m 1 20000000
noncomputable def sharesB (ss : Nat → ByteArray) (ms : Nat → Int) (n : Nat) : Bool := allB (goodAt (fun i => shareB (ss i) (ms i)) ss) n
noncomputable def bellB (s : ByteArray) (no ma fe : Int) (n : Nat) (ss : Nat → ByteArray) (ms : Nat → Int) : Bool :=
  sharesB ss ms n && (nameB s && (inB no 0 127 && (inB ma 1 20000000 && (inB fe 0 20000000 && (decide ((1 : Int) ≤ n) && (decide ((n : Int) ≤ 4) && (sumI ms n == ma + fe)))))))
theorem sharesB_up {ss : Nat → ByteArray} {ms : Nat → Int} {k : Nat} (h : sharesB ss ms k = true) (hk : goodAt (fun i => shareB (ss i) (ms i)) ss k = true) : sharesB ss ms (k + 1) = true := by
  rw [show sharesB ss ms (k + 1) = (sharesB ss ms k && goodAt (fun i => shareB (ss i) (ms i)) ss k) from rfl, h, hk]; rfl
theorem bellB_no {s : ByteArray} {no ma fe : Int} {n k : Nat} {ss : Nat → ByteArray} {ms : Nat → Int} (hk : k < n) (h : goodAt (fun i => shareB (ss i) (ms i)) ss k = false) : bellB s no ma fe n ss ms = false := by
  unfold bellB sharesB
  rw [allB_no hk h]; rfl
set_option maxHeartbeats 4000000 in
theorem ValidBell_calls (s : ByteArray) (no ma fe : Int) (A : Option Addr) (n c : Nat) (ss : Nat → ByteArray) (ms : Nat → Int) (w : World) (hs : s.size ≤ maxLen) (h : ShareRow w A n ss ms) (hss : ∀ i, i < n → (ss i).size ≤ maxLen) (hn : n ≤ 1048576) :
    Calls Tryz.prog 22 #[.agg #[.string s, .int .i64 no, .int .i64 ma, .int .i64 fe, .slice A n c]] w fun e w' => e = .returned (.bool (bellB s no ma fe n ss ms)) ∧ Below w.heap.size w w' := by
  generalize hres : bellB s no ma fe n ss ms = R
  have HRES := Lib.hid hres
  have H := Lib.hid h
  have HSS := Lib.hid hss
  clear h hss hres
  go_enter Tryz.func22, Tryz.ntmps22
  go_wp2
  go_loopw [3, 9] (fun sm i wr => ∃ (k : Nat) (v : Int), k ≤ n ∧ sm = .int .i64 v ∧ i = .int .i64 k ∧ 0 ≤ v ∧ v ≤ 20000000 * k ∧ Hid (v = sumI ms k) ∧ Hid (sharesB ss ms k = true) ∧ Below w.heap.size w wr ∧ Hid (Blk wr w.heap.size 28 #[.string s, .int .i64 no, .int .i64 ma, .int .i64 fe, .slice A n c])) (fun _ i _ => n - (intOf i).toNat)
  case atStart => exact ⟨0, 0, by omega, rfl, rfl, by omega, by omega, rfl, rfl, (Below.refl _ _).alloc (Nat.le_refl _) _, Lib.hid (Blk.new _ _ _)⟩
  case round =>
    obtain ⟨k, v, hk, rfl, rfl, v0, v1, hv, hgood, hbr, hbx⟩ := hrel
    by_cases hlt : k < n
    · have hsk := HSS.out k hlt
      obtain ⟨b, o, rfl, hrow⟩ := H.out (by omega)
      have hbw := (hrow k hlt).lt
      obtain ⟨c0, c1⟩ := (hrow k hlt).below hbr (Nat.le_refl _)
      have HR := Lib.hid hrow
      clear hrow
      cases q1 : nameB (ss k)
      · have HK : Hid (goodAt (fun i => shareB (ss i) (ms i)) ss (k) = false) := Lib.hid (by simp [goodAt, shareB, q1])
        go_wp2_with fail
        refine wp_gen (fun W0 hW0 => ?_)
        have s0_ : Below w.heap.size w W0 := by rw [hW0]; exact hbr.alloc hbr.size _
        have s1_ : Blk W0 w.heap.size 28 #[.string s, .int .i64 no, .int .i64 ma, .int .i64 fe, .slice (some ⟨b, o, none⟩) n c] := by rw [hW0]; exact hbx.out.alloc _
        have s2_ : W0.cell? ⟨w.heap.size, 4, none⟩ = some (.slice (some ⟨b, o, none⟩) n c) := (s1_.cell 4).trans rfl
        have s3_ : W0.cell? ⟨wr.heap.size, 0, none⟩ = some (.string (ss (k))) := by simp [hW0]
        have s4_ : W0.cell? ⟨wr.heap.size, 1, none⟩ = some (.int .i64 (ms (k))) := by simp [hW0]
        skip
        clear hW0
        refine wp_region_held_drew (S := fun w' => Below w.heap.size w w' ∧ Blk w' w.heap.size 28 #[.string s, .int .i64 no, .int .i64 ma, .int .i64 fe, .slice (some ⟨b, o, none⟩) n c] ∧ w'.cell? ⟨w.heap.size, 4, none⟩ = some (.slice (some ⟨b, o, none⟩) n c) ∧ w'.cell? ⟨wr.heap.size, 0, none⟩ = some (.string (ss (k))) ∧ w'.cell? ⟨wr.heap.size, 1, none⟩ = some (.int .i64 (ms (k)))) (by kernel_rfl) ?_ (fun hHeld => ?_)
        · exact ⟨s0_.drew, s1_, s2_, s3_, s4_⟩
        clear s0_ s1_ s2_ s3_ s4_
        refine take_yes (i := 0) (d := 14) (v := ?_) _ rfl rfl (by kernel_rfl) (by kernel_rfl) (by kernel_rfl) (fun _ _ _ _ h => h) (by rfl) ?_ (by assumption) ?_
        rotate_left 1
        · ((intro w hSw; (try dsimp only at hSw); go_simp) <;> (try with_reducible rfl))
        (try simp only [Act.put, List.setIfInBounds_toArray, List.set_cons_zero, List.set_cons_succ])
        refine take_yes (i := 1) (d := 15) (v := ?_) _ rfl rfl (by kernel_rfl) (by kernel_rfl) (by kernel_rfl) (fun _ _ _ _ h => h) (by rfl) ?_ (by assumption) ?_
        rotate_left 1
        · ((intro w hSw; (try dsimp only at hSw); go_simp) <;> (try with_reducible rfl))
        (try simp only [Act.put, List.setIfInBounds_toArray, List.set_cons_zero, List.set_cons_succ])
        (refine wpAnyH_ready (rs := [2]) (by kernel_rfl) (by simp) ?_; refine AllReadyH.cons rfl (fun K hK => ?_) AllReadyH.nil; go_simp; go_at_call 52; refine (isName_calls _ _ hsk).mono ?_; simp only [q1]; rintro e wd ⟨rfl, hb⟩; refine hK.out _ _ (by obtain ⟨x0_, x1_, x2_, x3_, x4_⟩ := hHeld; exact ⟨x0_.trans (hb.mono x0_.size), x1_.keep hb, cell_keep hb x2_, cell_keep hb x3_, cell_keep hb x4_⟩) (fun hHeld2 => ?_); clear hK K hHeld hb; have hHeld := hHeld2; clear hHeld2; (try simp only [Act.put, List.setIfInBounds_toArray, List.set_cons_zero, List.set_cons_succ]))
        refine take_yes (i := 3) (d := 17) (v := ?_) _ rfl rfl (by kernel_rfl) (by kernel_rfl) (by kernel_rfl) (fun _ _ _ _ h => h) (by rfl) ?_ (by assumption) ?_
        rotate_left 1
        · ((intro w hSw; (try dsimp only at hSw); go_simp) <;> (try with_reducible rfl))
        (try simp only [Act.put, List.setIfInBounds_toArray, List.set_cons_zero, List.set_cons_succ])
        refine take_yes (i := 4) (d := 18) (v := ?_) _ rfl rfl (by kernel_rfl) (by kernel_rfl) (by kernel_rfl) (fun _ _ _ _ h => h) (by rfl) ?_ (by assumption) ?_
        rotate_left 1
        · ((intro w hSw; (try dsimp only at hSw); go_simp) <;> (try with_reducible rfl))
        (try simp only [Act.put, List.setIfInBounds_toArray, List.set_cons_zero, List.set_cons_succ])
        (refine take_no (i := 5) (d := 19) _ rfl rfl (by kernel_rfl) (by kernel_rfl) (by kernel_rfl) (fun _ _ _ _ h => h) (by rfl) (by assumption) ?_; (try simp only [Act.put, List.setIfInBounds_toArray, List.set_cons_zero, List.set_cons_succ]))
        (refine take_no (i := 6) (d := 20) _ rfl rfl (by kernel_rfl) (by kernel_rfl) (by kernel_rfl) (fun _ _ _ _ h => h) (by rfl) (by assumption) ?_; (try simp only [Act.put, List.setIfInBounds_toArray, List.set_cons_zero, List.set_cons_succ]))
        (refine take_no (i := 7) (d := 21) _ rfl rfl (by kernel_rfl) (by kernel_rfl) (by kernel_rfl) (fun _ _ _ _ h => h) (by rfl) (by assumption) ?_; (try simp only [Act.put, List.setIfInBounds_toArray, List.set_cons_zero, List.set_cons_succ]))
        (refine take_no (i := 8) (d := 22) _ rfl rfl (by kernel_rfl) (by kernel_rfl) (by kernel_rfl) (fun _ _ _ _ h => h) (by rfl) (by assumption) ?_; (try simp only [Act.put, List.setIfInBounds_toArray, List.set_cons_zero, List.set_cons_succ]))
        refine take_yes (i := 9) (d := 23) (v := ?_) _ rfl rfl (by kernel_rfl) (by kernel_rfl) (by kernel_rfl) (fun _ _ _ _ h => h) (by rfl) ?_ (by assumption) ?_
        rotate_left 1
        · ((intro w hSw; (try dsimp only at hSw); go_simp) <;> (try with_reducible rfl))
        (try simp only [Act.put, List.setIfInBounds_toArray, List.set_cons_zero, List.set_cons_succ])
        refine take_yes (i := 10) (d := 24) (v := ?_) _ rfl rfl (by kernel_rfl) (by kernel_rfl) (by kernel_rfl) (fun _ _ _ _ h => h) (by rfl) ?_ (by assumption) ?_
        rotate_left 1
        · ((intro w hSw; (try dsimp only at hSw); go_simp) <;> (try with_reducible rfl))
        (try simp only [Act.put, List.setIfInBounds_toArray, List.set_cons_zero, List.set_cons_succ])
        (refine take_no (i := 11) (d := 25) _ rfl rfl (by kernel_rfl) (by kernel_rfl) (by kernel_rfl) (fun _ _ _ _ h => h) (by rfl) (by assumption) ?_; (try simp only [Act.put, List.setIfInBounds_toArray, List.set_cons_zero, List.set_cons_succ]))
        (refine take_no (i := 12) (d := 26) _ rfl rfl (by kernel_rfl) (by kernel_rfl) (by kernel_rfl) (fun _ _ _ _ h => h) (by rfl) (by assumption) ?_; (try simp only [Act.put, List.setIfInBounds_toArray, List.set_cons_zero, List.set_cons_succ]))
        (refine take_no (i := 13) (d := 27) _ rfl rfl (by kernel_rfl) (by kernel_rfl) (by kernel_rfl) (fun _ _ _ _ h => h) (by rfl) (by assumption) ?_; (try simp only [Act.put, List.setIfInBounds_toArray, List.set_cons_zero, List.set_cons_succ]))
        (refine take_no (i := 14) (d := 28) _ rfl rfl (by kernel_rfl) (by kernel_rfl) (by kernel_rfl) (fun _ _ _ _ h => h) (by rfl) (by assumption) ?_; (try simp only [Act.put, List.setIfInBounds_toArray, List.set_cons_zero, List.set_cons_succ]))
        (refine take_no (i := 15) (d := 29) _ rfl rfl (by kernel_rfl) (by kernel_rfl) (by kernel_rfl) (fun _ _ _ _ h => h) (by rfl) (by assumption) ?_; (try simp only [Act.put, List.setIfInBounds_toArray, List.set_cons_zero, List.set_cons_succ]))
        (refine take_no (i := 16) (d := 30) _ rfl rfl (by kernel_rfl) (by kernel_rfl) (by kernel_rfl) (fun _ _ _ _ h => h) (by rfl) (by assumption) ?_; (try simp only [Act.put, List.setIfInBounds_toArray, List.set_cons_zero, List.set_cons_succ]))
        (refine take_no (i := 17) (d := 31) _ rfl rfl (by kernel_rfl) (by kernel_rfl) (by kernel_rfl) (fun _ _ _ _ h => h) (by rfl) (by assumption) ?_; (try simp only [Act.put, List.setIfInBounds_toArray, List.set_cons_zero, List.set_cons_succ]))
        (refine take_no (i := 18) (d := 32) _ rfl rfl (by kernel_rfl) (by kernel_rfl) (by kernel_rfl) (fun _ _ _ _ h => h) (by rfl) (by assumption) ?_; (try simp only [Act.put, List.setIfInBounds_toArray, List.set_cons_zero, List.set_cons_succ]))
        (refine take_no (i := 19) (d := 33) _ rfl rfl (by kernel_rfl) (by kernel_rfl) (by kernel_rfl) (fun _ _ _ _ h => h) (by rfl) (by assumption) ?_; (try simp only [Act.put, List.setIfInBounds_toArray, List.set_cons_zero, List.set_cons_succ]))
        (refine take_no (i := 20) (d := 34) _ rfl rfl (by kernel_rfl) (by kernel_rfl) (by kernel_rfl) (fun _ _ _ _ h => h) (by rfl) (by assumption) ?_; (try simp only [Act.put, List.setIfInBounds_toArray, List.set_cons_zero, List.set_cons_succ]))
        (refine take_no (i := 21) (d := 35) _ rfl rfl (by kernel_rfl) (by kernel_rfl) (by kernel_rfl) (fun _ _ _ _ h => h) (by rfl) (by assumption) ?_; (try simp only [Act.put, List.setIfInBounds_toArray, List.set_cons_zero, List.set_cons_succ]))
        (refine take_no (i := 22) (d := 36) _ rfl rfl (by kernel_rfl) (by kernel_rfl) (by kernel_rfl) (fun _ _ _ _ h => h) (by rfl) (by assumption) ?_; (try simp only [Act.put, List.setIfInBounds_toArray, List.set_cons_zero, List.set_cons_succ]))
        (refine take_no (i := 23) (d := 37) _ rfl rfl (by kernel_rfl) (by kernel_rfl) (by kernel_rfl) (fun _ _ _ _ h => h) (by rfl) (by assumption) ?_; (try simp only [Act.put, List.setIfInBounds_toArray, List.set_cons_zero, List.set_cons_succ]))
        (refine take_no (i := 24) (d := 38) _ rfl rfl (by kernel_rfl) (by kernel_rfl) (by kernel_rfl) (fun _ _ _ _ h => h) (by rfl) (by assumption) ?_; (try simp only [Act.put, List.setIfInBounds_toArray, List.set_cons_zero, List.set_cons_succ]))
        refine take_yes (i := 25) (d := 39) (v := ?_) _ rfl rfl (by kernel_rfl) (by kernel_rfl) (by kernel_rfl) (fun _ _ _ _ h => h) (by rfl) ?_ (by assumption) ?_
        rotate_left 1
        · ((intro w hSw; (try dsimp only at hSw); go_simp) <;> (try with_reducible rfl))
        (try simp only [Act.put, List.setIfInBounds_toArray, List.set_cons_zero, List.set_cons_succ])
        refine wpAnyH_done (by kernel_rfl) ?_ _
        obtain ⟨z0, z1, z2, z3, z4⟩ := hHeld
        go_wp2
        go_ret
        exact ⟨ret_bool (by rw [← HRES.out, bellB_no hlt HK.out]), z0⟩
      · cases q2 : inB (ms k) 1 20000000
        · have HK : Hid (goodAt (fun i => shareB (ss i) (ms i)) ss (k) = false) := Lib.hid (by simp [goodAt, shareB, q2])
          go_wp2_with fail
          refine wp_gen (fun W0 hW0 => ?_)
          have s0_ : Below w.heap.size w W0 := by rw [hW0]; exact hbr.alloc hbr.size _
          have s1_ : Blk W0 w.heap.size 28 #[.string s, .int .i64 no, .int .i64 ma, .int .i64 fe, .slice (some ⟨b, o, none⟩) n c] := by rw [hW0]; exact hbx.out.alloc _
          have s2_ : W0.cell? ⟨w.heap.size, 4, none⟩ = some (.slice (some ⟨b, o, none⟩) n c) := (s1_.cell 4).trans rfl
          have s3_ : W0.cell? ⟨wr.heap.size, 0, none⟩ = some (.string (ss (k))) := by simp [hW0]
          have s4_ : W0.cell? ⟨wr.heap.size, 1, none⟩ = some (.int .i64 (ms (k))) := by simp [hW0]
          skip
          clear hW0
          refine wp_region_held_drew (S := fun w' => Below w.heap.size w w' ∧ Blk w' w.heap.size 28 #[.string s, .int .i64 no, .int .i64 ma, .int .i64 fe, .slice (some ⟨b, o, none⟩) n c] ∧ w'.cell? ⟨w.heap.size, 4, none⟩ = some (.slice (some ⟨b, o, none⟩) n c) ∧ w'.cell? ⟨wr.heap.size, 0, none⟩ = some (.string (ss (k))) ∧ w'.cell? ⟨wr.heap.size, 1, none⟩ = some (.int .i64 (ms (k)))) (by kernel_rfl) ?_ (fun hHeld => ?_)
          · exact ⟨s0_.drew, s1_, s2_, s3_, s4_⟩
          clear s0_ s1_ s2_ s3_ s4_
          refine take_yes (i := 0) (d := 14) (v := ?_) _ rfl rfl (by kernel_rfl) (by kernel_rfl) (by kernel_rfl) (fun _ _ _ _ h => h) (by rfl) ?_ (by assumption) ?_
          rotate_left 1
          · ((intro w hSw; (try dsimp only at hSw); go_simp) <;> (try with_reducible rfl))
          (try simp only [Act.put, List.setIfInBounds_toArray, List.set_cons_zero, List.set_cons_succ])
          refine take_yes (i := 1) (d := 15) (v := ?_) _ rfl rfl (by kernel_rfl) (by kernel_rfl) (by kernel_rfl) (fun _ _ _ _ h => h) (by rfl) ?_ (by assumption) ?_
          rotate_left 1
          · ((intro w hSw; (try dsimp only at hSw); go_simp) <;> (try with_reducible rfl))
          (try simp only [Act.put, List.setIfInBounds_toArray, List.set_cons_zero, List.set_cons_succ])
          (refine wpAnyH_ready (rs := [2]) (by kernel_rfl) (by simp) ?_; refine AllReadyH.cons rfl (fun K hK => ?_) AllReadyH.nil; go_simp; go_at_call 52; refine (isName_calls _ _ hsk).mono ?_; simp only [q1]; rintro e wd ⟨rfl, hb⟩; refine hK.out _ _ (by obtain ⟨x0_, x1_, x2_, x3_, x4_⟩ := hHeld; exact ⟨x0_.trans (hb.mono x0_.size), x1_.keep hb, cell_keep hb x2_, cell_keep hb x3_, cell_keep hb x4_⟩) (fun hHeld2 => ?_); clear hK K hHeld hb; have hHeld := hHeld2; clear hHeld2; (try simp only [Act.put, List.setIfInBounds_toArray, List.set_cons_zero, List.set_cons_succ]))
          refine take_yes (i := 3) (d := 17) (v := ?_) _ rfl rfl (by kernel_rfl) (by kernel_rfl) (by kernel_rfl) (fun _ _ _ _ h => h) (by rfl) ?_ (by assumption) ?_
          rotate_left 1
          · ((intro w hSw; (try dsimp only at hSw); go_simp) <;> (try with_reducible rfl))
          (try simp only [Act.put, List.setIfInBounds_toArray, List.set_cons_zero, List.set_cons_succ])
          refine take_yes (i := 4) (d := 18) (v := ?_) _ rfl rfl (by kernel_rfl) (by kernel_rfl) (by kernel_rfl) (fun _ _ _ _ h => h) (by rfl) ?_ (by assumption) ?_
          rotate_left 1
          · ((intro w hSw; (try dsimp only at hSw); go_simp) <;> (try with_reducible rfl))
          (try simp only [Act.put, List.setIfInBounds_toArray, List.set_cons_zero, List.set_cons_succ])
          refine take_yes (i := 5) (d := 19) (v := ?_) _ rfl rfl (by kernel_rfl) (by kernel_rfl) (by kernel_rfl) (fun _ _ _ _ h => h) (by rfl) ?_ (by assumption) ?_
          rotate_left 1
          · ((intro w hSw; (try dsimp only at hSw); go_simp) <;> (try with_reducible rfl))
          (try simp only [Act.put, List.setIfInBounds_toArray, List.set_cons_zero, List.set_cons_succ])
          refine take_yes (i := 6) (d := 20) (v := ?_) _ rfl rfl (by kernel_rfl) (by kernel_rfl) (by kernel_rfl) (fun _ _ _ _ h => h) (by rfl) ?_ (by assumption) ?_
          rotate_left 1
          · ((intro w hSw; (try dsimp only at hSw); go_simp) <;> (try with_reducible rfl))
          (try simp only [Act.put, List.setIfInBounds_toArray, List.set_cons_zero, List.set_cons_succ])
          (refine wpAnyH_ready (rs := [7]) (by kernel_rfl) (by simp) ?_; refine AllReadyH.cons rfl (fun K hK => ?_) AllReadyH.nil; go_simp; go_at_call 53; refine (isMass_calls _ _).mono ?_; simp only [q2]; rintro e wd ⟨rfl, rfl⟩; refine hK.out _ _ (by assumption) (fun hHeld2 => ?_); clear hK K hHeld; have hHeld := hHeld2; clear hHeld2; (try simp only [Act.put, List.setIfInBounds_toArray, List.set_cons_zero, List.set_cons_succ]))
          refine take_yes (i := 8) (d := 22) (v := ?_) _ rfl rfl (by kernel_rfl) (by kernel_rfl) (by kernel_rfl) (fun _ _ _ _ h => h) (by rfl) ?_ (by assumption) ?_
          rotate_left 1
          · ((intro w hSw; (try dsimp only at hSw); go_simp) <;> (try with_reducible rfl))
          (try simp only [Act.put, List.setIfInBounds_toArray, List.set_cons_zero, List.set_cons_succ])
          refine take_yes (i := 9) (d := 23) (v := ?_) _ rfl rfl (by kernel_rfl) (by kernel_rfl) (by kernel_rfl) (fun _ _ _ _ h => h) (by rfl) ?_ (by assumption) ?_
          rotate_left 1
          · ((intro w hSw; (try dsimp only at hSw); go_simp) <;> (try with_reducible rfl))
          (try simp only [Act.put, List.setIfInBounds_toArray, List.set_cons_zero, List.set_cons_succ])
          refine take_yes (i := 10) (d := 24) (v := ?_) _ rfl rfl (by kernel_rfl) (by kernel_rfl) (by kernel_rfl) (fun _ _ _ _ h => h) (by rfl) ?_ (by assumption) ?_
          rotate_left 1
          · ((intro w hSw; (try dsimp only at hSw); go_simp) <;> (try with_reducible rfl))
          (try simp only [Act.put, List.setIfInBounds_toArray, List.set_cons_zero, List.set_cons_succ])
          (refine take_no (i := 11) (d := 25) _ rfl rfl (by kernel_rfl) (by kernel_rfl) (by kernel_rfl) (fun _ _ _ _ h => h) (by rfl) (by assumption) ?_; (try simp only [Act.put, List.setIfInBounds_toArray, List.set_cons_zero, List.set_cons_succ]))
          (refine take_no (i := 12) (d := 26) _ rfl rfl (by kernel_rfl) (by kernel_rfl) (by kernel_rfl) (fun _ _ _ _ h => h) (by rfl) (by assumption) ?_; (try simp only [Act.put, List.setIfInBounds_toArray, List.set_cons_zero, List.set_cons_succ]))
          (refine take_no (i := 13) (d := 27) _ rfl rfl (by kernel_rfl) (by kernel_rfl) (by kernel_rfl) (fun _ _ _ _ h => h) (by rfl) (by assumption) ?_; (try simp only [Act.put, List.setIfInBounds_toArray, List.set_cons_zero, List.set_cons_succ]))
          (refine take_no (i := 14) (d := 28) _ rfl rfl (by kernel_rfl) (by kernel_rfl) (by kernel_rfl) (fun _ _ _ _ h => h) (by rfl) (by assumption) ?_; (try simp only [Act.put, List.setIfInBounds_toArray, List.set_cons_zero, List.set_cons_succ]))
          (refine take_no (i := 15) (d := 29) _ rfl rfl (by kernel_rfl) (by kernel_rfl) (by kernel_rfl) (fun _ _ _ _ h => h) (by rfl) (by assumption) ?_; (try simp only [Act.put, List.setIfInBounds_toArray, List.set_cons_zero, List.set_cons_succ]))
          (refine take_no (i := 16) (d := 30) _ rfl rfl (by kernel_rfl) (by kernel_rfl) (by kernel_rfl) (fun _ _ _ _ h => h) (by rfl) (by assumption) ?_; (try simp only [Act.put, List.setIfInBounds_toArray, List.set_cons_zero, List.set_cons_succ]))
          (refine take_no (i := 17) (d := 31) _ rfl rfl (by kernel_rfl) (by kernel_rfl) (by kernel_rfl) (fun _ _ _ _ h => h) (by rfl) (by assumption) ?_; (try simp only [Act.put, List.setIfInBounds_toArray, List.set_cons_zero, List.set_cons_succ]))
          (refine take_no (i := 18) (d := 32) _ rfl rfl (by kernel_rfl) (by kernel_rfl) (by kernel_rfl) (fun _ _ _ _ h => h) (by rfl) (by assumption) ?_; (try simp only [Act.put, List.setIfInBounds_toArray, List.set_cons_zero, List.set_cons_succ]))
          (refine take_no (i := 19) (d := 33) _ rfl rfl (by kernel_rfl) (by kernel_rfl) (by kernel_rfl) (fun _ _ _ _ h => h) (by rfl) (by assumption) ?_; (try simp only [Act.put, List.setIfInBounds_toArray, List.set_cons_zero, List.set_cons_succ]))
          (refine take_no (i := 20) (d := 34) _ rfl rfl (by kernel_rfl) (by kernel_rfl) (by kernel_rfl) (fun _ _ _ _ h => h) (by rfl) (by assumption) ?_; (try simp only [Act.put, List.setIfInBounds_toArray, List.set_cons_zero, List.set_cons_succ]))
          (refine take_no (i := 21) (d := 35) _ rfl rfl (by kernel_rfl) (by kernel_rfl) (by kernel_rfl) (fun _ _ _ _ h => h) (by rfl) (by assumption) ?_; (try simp only [Act.put, List.setIfInBounds_toArray, List.set_cons_zero, List.set_cons_succ]))
          (refine take_no (i := 22) (d := 36) _ rfl rfl (by kernel_rfl) (by kernel_rfl) (by kernel_rfl) (fun _ _ _ _ h => h) (by rfl) (by assumption) ?_; (try simp only [Act.put, List.setIfInBounds_toArray, List.set_cons_zero, List.set_cons_succ]))
          (refine take_no (i := 23) (d := 37) _ rfl rfl (by kernel_rfl) (by kernel_rfl) (by kernel_rfl) (fun _ _ _ _ h => h) (by rfl) (by assumption) ?_; (try simp only [Act.put, List.setIfInBounds_toArray, List.set_cons_zero, List.set_cons_succ]))
          (refine take_no (i := 24) (d := 38) _ rfl rfl (by kernel_rfl) (by kernel_rfl) (by kernel_rfl) (fun _ _ _ _ h => h) (by rfl) (by assumption) ?_; (try simp only [Act.put, List.setIfInBounds_toArray, List.set_cons_zero, List.set_cons_succ]))
          refine take_yes (i := 25) (d := 39) (v := ?_) _ rfl rfl (by kernel_rfl) (by kernel_rfl) (by kernel_rfl) (fun _ _ _ _ h => h) (by rfl) ?_ (by assumption) ?_
          rotate_left 1
          · ((intro w hSw; (try dsimp only at hSw); go_simp) <;> (try with_reducible rfl))
          (try simp only [Act.put, List.setIfInBounds_toArray, List.set_cons_zero, List.set_cons_succ])
          refine wpAnyH_done (by kernel_rfl) ?_ _
          obtain ⟨z0, z1, z2, z3, z4⟩ := hHeld
          go_wp2
          go_ret
          exact ⟨ret_bool (by rw [← HRES.out, bellB_no hlt HK.out]), z0⟩
        · rcases Nat.eq_zero_or_pos k with hz | hz
          · have hd1 : decide ((0 : Int) < (k : Int)) = false := decide_eq_false (by omega)
            have hd2 : decide (0 < k) = false := decide_eq_false (by omega)
            have hg0 : goodAt (fun i => shareB (ss i) (ms i)) ss k = true := by subst hz; simp [goodAt, shareB, q1, q2]
            have HG0 := Lib.hid hg0
            clear hz hg0
            have HK : Hid (goodAt (fun i => shareB (ss i) (ms i)) ss (k) = true) := Lib.hid (by exact HG0.out)
            obtain ⟨mb0, mb1⟩ := inB_iff.1 q2
            go_wp2_with fail
            refine wp_gen (fun W0 hW0 => ?_)
            have s0_ : Below w.heap.size w W0 := by rw [hW0]; exact hbr.alloc hbr.size _
            have s1_ : Blk W0 w.heap.size 28 #[.string s, .int .i64 no, .int .i64 ma, .int .i64 fe, .slice (some ⟨b, o, none⟩) n c] := by rw [hW0]; exact hbx.out.alloc _
            have s2_ : W0.cell? ⟨w.heap.size, 4, none⟩ = some (.slice (some ⟨b, o, none⟩) n c) := (s1_.cell 4).trans rfl
            have s3_ : W0.cell? ⟨wr.heap.size, 0, none⟩ = some (.string (ss (k))) := by simp [hW0]
            have s4_ : W0.cell? ⟨wr.heap.size, 1, none⟩ = some (.int .i64 (ms (k))) := by simp [hW0]
            skip
            clear hW0
            refine wp_region_held_drew (S := fun w' => Below w.heap.size w w' ∧ Blk w' w.heap.size 28 #[.string s, .int .i64 no, .int .i64 ma, .int .i64 fe, .slice (some ⟨b, o, none⟩) n c] ∧ w'.cell? ⟨w.heap.size, 4, none⟩ = some (.slice (some ⟨b, o, none⟩) n c) ∧ w'.cell? ⟨wr.heap.size, 0, none⟩ = some (.string (ss (k))) ∧ w'.cell? ⟨wr.heap.size, 1, none⟩ = some (.int .i64 (ms (k)))) (by kernel_rfl) ?_ (fun hHeld => ?_)
            · exact ⟨s0_.drew, s1_, s2_, s3_, s4_⟩
            clear s0_ s1_ s2_ s3_ s4_
            refine take_yes (i := 0) (d := 14) (v := ?_) _ rfl rfl (by kernel_rfl) (by kernel_rfl) (by kernel_rfl) (fun _ _ _ _ h => h) (by rfl) ?_ (by assumption) ?_
            rotate_left 1
            · ((intro w hSw; (try dsimp only at hSw); go_simp) <;> (try with_reducible rfl))
            (try simp only [Act.put, List.setIfInBounds_toArray, List.set_cons_zero, List.set_cons_succ])
            refine take_yes (i := 1) (d := 15) (v := ?_) _ rfl rfl (by kernel_rfl) (by kernel_rfl) (by kernel_rfl) (fun _ _ _ _ h => h) (by rfl) ?_ (by assumption) ?_
            rotate_left 1
            · ((intro w hSw; (try dsimp only at hSw); go_simp) <;> (try with_reducible rfl))
            (try simp only [Act.put, List.setIfInBounds_toArray, List.set_cons_zero, List.set_cons_succ])
            (refine wpAnyH_ready (rs := [2]) (by kernel_rfl) (by simp) ?_; refine AllReadyH.cons rfl (fun K hK => ?_) AllReadyH.nil; go_simp; go_at_call 52; refine (isName_calls _ _ hsk).mono ?_; simp only [q1]; rintro e wd ⟨rfl, hb⟩; refine hK.out _ _ (by obtain ⟨x0_, x1_, x2_, x3_, x4_⟩ := hHeld; exact ⟨x0_.trans (hb.mono x0_.size), x1_.keep hb, cell_keep hb x2_, cell_keep hb x3_, cell_keep hb x4_⟩) (fun hHeld2 => ?_); clear hK K hHeld hb; have hHeld := hHeld2; clear hHeld2; (try simp only [Act.put, List.setIfInBounds_toArray, List.set_cons_zero, List.set_cons_succ]))
            refine take_yes (i := 3) (d := 17) (v := ?_) _ rfl rfl (by kernel_rfl) (by kernel_rfl) (by kernel_rfl) (fun _ _ _ _ h => h) (by rfl) ?_ (by assumption) ?_
            rotate_left 1
            · ((intro w hSw; (try dsimp only at hSw); go_simp) <;> (try with_reducible rfl))
            (try simp only [Act.put, List.setIfInBounds_toArray, List.set_cons_zero, List.set_cons_succ])
            refine take_yes (i := 4) (d := 18) (v := ?_) _ rfl rfl (by kernel_rfl) (by kernel_rfl) (by kernel_rfl) (fun _ _ _ _ h => h) (by rfl) ?_ (by assumption) ?_
            rotate_left 1
            · ((intro w hSw; (try dsimp only at hSw); go_simp) <;> (try with_reducible rfl))
            (try simp only [Act.put, List.setIfInBounds_toArray, List.set_cons_zero, List.set_cons_succ])
            refine take_yes (i := 5) (d := 19) (v := ?_) _ rfl rfl (by kernel_rfl) (by kernel_rfl) (by kernel_rfl) (fun _ _ _ _ h => h) (by rfl) ?_ (by assumption) ?_
            rotate_left 1
            · ((intro w hSw; (try dsimp only at hSw); go_simp) <;> (try with_reducible rfl))
            (try simp only [Act.put, List.setIfInBounds_toArray, List.set_cons_zero, List.set_cons_succ])
            refine take_yes (i := 6) (d := 20) (v := ?_) _ rfl rfl (by kernel_rfl) (by kernel_rfl) (by kernel_rfl) (fun _ _ _ _ h => h) (by rfl) ?_ (by assumption) ?_
            rotate_left 1
            · ((intro w hSw; (try dsimp only at hSw); go_simp) <;> (try with_reducible rfl))
            (try simp only [Act.put, List.setIfInBounds_toArray, List.set_cons_zero, List.set_cons_succ])
            (refine wpAnyH_ready (rs := [7]) (by kernel_rfl) (by simp) ?_; refine AllReadyH.cons rfl (fun K hK => ?_) AllReadyH.nil; go_simp; go_at_call 53; refine (isMass_calls _ _).mono ?_; simp only [q2]; rintro e wd ⟨rfl, rfl⟩; refine hK.out _ _ (by assumption) (fun hHeld2 => ?_); clear hK K hHeld; have hHeld := hHeld2; clear hHeld2; (try simp only [Act.put, List.setIfInBounds_toArray, List.set_cons_zero, List.set_cons_succ]))
            refine take_yes (i := 8) (d := 22) (v := ?_) _ rfl rfl (by kernel_rfl) (by kernel_rfl) (by kernel_rfl) (fun _ _ _ _ h => h) (by rfl) ?_ (by assumption) ?_
            rotate_left 1
            · ((intro w hSw; (try dsimp only at hSw); go_simp) <;> (try with_reducible rfl))
            (try simp only [Act.put, List.setIfInBounds_toArray, List.set_cons_zero, List.set_cons_succ])
            refine take_yes (i := 9) (d := 23) (v := ?_) _ rfl rfl (by kernel_rfl) (by kernel_rfl) (by kernel_rfl) (fun _ _ _ _ h => h) (by rfl) ?_ (by assumption) ?_
            rotate_left 1
            · ((intro w hSw; (try dsimp only at hSw); go_simp) <;> (try with_reducible rfl))
            (try simp only [Act.put, List.setIfInBounds_toArray, List.set_cons_zero, List.set_cons_succ])
            refine take_yes (i := 10) (d := 24) (v := ?_) _ rfl rfl (by kernel_rfl) (by kernel_rfl) (by kernel_rfl) (fun _ _ _ _ h => h) (by rfl) ?_ (by assumption) ?_
            rotate_left 1
            · ((intro w hSw; (try dsimp only at hSw); go_simp) <;> (try with_reducible rfl))
            (try simp only [Act.put, List.setIfInBounds_toArray, List.set_cons_zero, List.set_cons_succ])
            refine take_yes (i := 11) (d := 25) (v := ?_) _ rfl rfl (by kernel_rfl) (by kernel_rfl) (by kernel_rfl) (fun _ _ _ _ h => h) (by rfl) ?_ (by assumption) ?_
            rotate_left 1
            · ((intro w hSw; (try dsimp only at hSw); go_simp) <;> (try with_reducible rfl))
            (try simp only [Act.put, List.setIfInBounds_toArray, List.set_cons_zero, List.set_cons_succ])
            refine take_yes (i := 12) (d := 26) (v := ?_) _ rfl rfl (by kernel_rfl) (by kernel_rfl) (by kernel_rfl) (fun _ _ _ _ h => h) (by rfl) ?_ (by assumption) ?_
            rotate_left 1
            · ((intro w hSw; (try dsimp only at hSw); go_simp) <;> (try with_reducible rfl))
            (try simp only [Act.put, List.setIfInBounds_toArray, List.set_cons_zero, List.set_cons_succ])
            refine take_yes (i := 13) (d := 27) (v := ?_) _ rfl rfl (by kernel_rfl) (by kernel_rfl) (by kernel_rfl) (fun _ _ _ _ h => h) (by rfl) ?_ (by assumption) ?_
            rotate_left 1
            · ((intro w hSw; (try dsimp only at hSw); go_simp) <;> (try with_reducible rfl))
            (try simp only [Act.put, List.setIfInBounds_toArray, List.set_cons_zero, List.set_cons_succ])
            (refine take_no (i := 14) (d := 28) _ rfl rfl (by kernel_rfl) (by kernel_rfl) (by kernel_rfl) (fun _ _ _ _ h => h) (by rfl) (by assumption) ?_; (try simp only [Act.put, List.setIfInBounds_toArray, List.set_cons_zero, List.set_cons_succ]))
            (refine take_no (i := 15) (d := 29) _ rfl rfl (by kernel_rfl) (by kernel_rfl) (by kernel_rfl) (fun _ _ _ _ h => h) (by rfl) (by assumption) ?_; (try simp only [Act.put, List.setIfInBounds_toArray, List.set_cons_zero, List.set_cons_succ]))
            (refine take_no (i := 16) (d := 30) _ rfl rfl (by kernel_rfl) (by kernel_rfl) (by kernel_rfl) (fun _ _ _ _ h => h) (by rfl) (by assumption) ?_; (try simp only [Act.put, List.setIfInBounds_toArray, List.set_cons_zero, List.set_cons_succ]))
            (refine take_no (i := 17) (d := 31) _ rfl rfl (by kernel_rfl) (by kernel_rfl) (by kernel_rfl) (fun _ _ _ _ h => h) (by rfl) (by assumption) ?_; (try simp only [Act.put, List.setIfInBounds_toArray, List.set_cons_zero, List.set_cons_succ]))
            (refine take_no (i := 18) (d := 32) _ rfl rfl (by kernel_rfl) (by kernel_rfl) (by kernel_rfl) (fun _ _ _ _ h => h) (by rfl) (by assumption) ?_; (try simp only [Act.put, List.setIfInBounds_toArray, List.set_cons_zero, List.set_cons_succ]))
            (refine take_no (i := 19) (d := 33) _ rfl rfl (by kernel_rfl) (by kernel_rfl) (by kernel_rfl) (fun _ _ _ _ h => h) (by rfl) (by assumption) ?_; (try simp only [Act.put, List.setIfInBounds_toArray, List.set_cons_zero, List.set_cons_succ]))
            (refine take_no (i := 20) (d := 34) _ rfl rfl (by kernel_rfl) (by kernel_rfl) (by kernel_rfl) (fun _ _ _ _ h => h) (by rfl) (by assumption) ?_; (try simp only [Act.put, List.setIfInBounds_toArray, List.set_cons_zero, List.set_cons_succ]))
            (refine take_no (i := 21) (d := 35) _ rfl rfl (by kernel_rfl) (by kernel_rfl) (by kernel_rfl) (fun _ _ _ _ h => h) (by rfl) (by assumption) ?_; (try simp only [Act.put, List.setIfInBounds_toArray, List.set_cons_zero, List.set_cons_succ]))
            (refine take_no (i := 22) (d := 36) _ rfl rfl (by kernel_rfl) (by kernel_rfl) (by kernel_rfl) (fun _ _ _ _ h => h) (by rfl) (by assumption) ?_; (try simp only [Act.put, List.setIfInBounds_toArray, List.set_cons_zero, List.set_cons_succ]))
            (refine take_no (i := 23) (d := 37) _ rfl rfl (by kernel_rfl) (by kernel_rfl) (by kernel_rfl) (fun _ _ _ _ h => h) (by rfl) (by assumption) ?_; (try simp only [Act.put, List.setIfInBounds_toArray, List.set_cons_zero, List.set_cons_succ]))
            refine take_yes (i := 24) (d := 38) (v := ?_) _ rfl rfl (by kernel_rfl) (by kernel_rfl) (by kernel_rfl) (fun _ _ _ _ h => h) (by rfl) ?_ (by assumption) ?_
            rotate_left 1
            · ((intro w hSw; (try dsimp only at hSw); go_simp) <;> (try with_reducible rfl))
            (try simp only [Act.put, List.setIfInBounds_toArray, List.set_cons_zero, List.set_cons_succ])
            refine take_yes (i := 25) (d := 39) (v := ?_) _ rfl rfl (by kernel_rfl) (by kernel_rfl) (by kernel_rfl) (fun _ _ _ _ h => h) (by rfl) ?_ (by assumption) ?_
            rotate_left 1
            · ((intro w hSw; (try dsimp only at hSw); go_simp) <;> (try with_reducible rfl))
            (try simp only [Act.put, List.setIfInBounds_toArray, List.set_cons_zero, List.set_cons_succ])
            refine wpAnyH_done (by kernel_rfl) ?_ _
            obtain ⟨z0, z1, z2, z3, z4⟩ := hHeld
            have hbx2 := Lib.hid z1
            go_wp2
            go_roundw
            case rel => exact ⟨k + 1, v + ms (k), by omega, rfl, by go_num, by omega, by omega, Lib.hid (by rw [show sumI ms (k + 1) = sumI ms (k) + ms (k) from rfl, ← hv.out]), Lib.hid (sharesB_up hgood.out HK.out), z0, hbx2⟩
            case measure => simp [intOf]; omega
          · obtain ⟨j, hj⟩ : ∃ j, k = j + 1 := ⟨k - 1, by omega⟩
            have pr := (HR.out j (by omega)).below hbr (Nat.le_refl _) |>.1
            have hd1 : decide ((0 : Int) < (k : Int)) = true := decide_eq_true (by omega)
            have hd2 : decide (0 < k) = true := decide_eq_true (by omega)
            have hw : IntKind.i64.wrap ((k : Int) - 1) = (j : Int) := (IntWalk.i64_in _ ⟨by omega, by omega⟩).trans (by omega)
            have hjn : j < n := by omega
            have hg : goodAt (fun i => shareB (ss i) (ms i)) ss k = Op.bytesLess (ss j).toList (ss k).toList := by subst hj; simp [goodAt, shareB, q1, q2]
            clear hj hz
            have hle := less_total (ss k).toList (ss j).toList
            cases q3 : (Op.bytesLess (ss k).toList (ss j).toList || (ss k).toList == (ss j).toList)
            · have hg1 := Lib.hid (show goodAt (fun i => shareB (ss i) (ms i)) ss k = true by rw [q3] at hle; rw [hg]; simpa using hle)
              clear hg hle
              have HK : Hid (goodAt (fun i => shareB (ss i) (ms i)) ss (k) = true) := Lib.hid (by exact hg1.out)
              obtain ⟨mb0, mb1⟩ := inB_iff.1 q2
              go_wp2_with fail
              refine wp_gen (fun W0 hW0 => ?_)
              have s0_ : Below w.heap.size w W0 := by rw [hW0]; exact hbr.alloc hbr.size _
              have s1_ : Blk W0 w.heap.size 28 #[.string s, .int .i64 no, .int .i64 ma, .int .i64 fe, .slice (some ⟨b, o, none⟩) n c] := by rw [hW0]; exact hbx.out.alloc _
              have s2_ : W0.cell? ⟨w.heap.size, 4, none⟩ = some (.slice (some ⟨b, o, none⟩) n c) := (s1_.cell 4).trans rfl
              have s3_ : W0.cell? ⟨wr.heap.size, 0, none⟩ = some (.string (ss (k))) := by simp [hW0]
              have s4_ : W0.cell? ⟨wr.heap.size, 1, none⟩ = some (.int .i64 (ms (k))) := by simp [hW0]
              have s5_ : W0.cell? ⟨b, o + j * 2, none⟩ = some (.string (ss j)) := by rw [hW0]; exact cell_keep ((Below.refl _ _).alloc (Nat.le_refl _) _) pr
              clear hW0
              refine wp_region_held_drew (S := fun w' => Below w.heap.size w w' ∧ Blk w' w.heap.size 28 #[.string s, .int .i64 no, .int .i64 ma, .int .i64 fe, .slice (some ⟨b, o, none⟩) n c] ∧ w'.cell? ⟨w.heap.size, 4, none⟩ = some (.slice (some ⟨b, o, none⟩) n c) ∧ w'.cell? ⟨wr.heap.size, 0, none⟩ = some (.string (ss (k))) ∧ w'.cell? ⟨wr.heap.size, 1, none⟩ = some (.int .i64 (ms (k))) ∧ w'.cell? ⟨b, o + j * 2, none⟩ = some (.string (ss j))) (by kernel_rfl) ?_ (fun hHeld => ?_)
              · exact ⟨s0_.drew, s1_, s2_, s3_, s4_, s5_⟩
              clear s0_ s1_ s2_ s3_ s4_ s5_
              refine take_yes (i := 0) (d := 14) (v := ?_) _ rfl rfl (by kernel_rfl) (by kernel_rfl) (by kernel_rfl) (fun _ _ _ _ h => h) (by rfl) ?_ (by assumption) ?_
              rotate_left 1
              · ((intro w hSw; (try dsimp only at hSw); go_simp) <;> (try with_reducible rfl))
              (try simp only [Act.put, List.setIfInBounds_toArray, List.set_cons_zero, List.set_cons_succ])
              refine take_yes (i := 1) (d := 15) (v := ?_) _ rfl rfl (by kernel_rfl) (by kernel_rfl) (by kernel_rfl) (fun _ _ _ _ h => h) (by rfl) ?_ (by assumption) ?_
              rotate_left 1
              · ((intro w hSw; (try dsimp only at hSw); go_simp) <;> (try with_reducible rfl))
              (try simp only [Act.put, List.setIfInBounds_toArray, List.set_cons_zero, List.set_cons_succ])
              (refine wpAnyH_ready (rs := [2]) (by kernel_rfl) (by simp) ?_; refine AllReadyH.cons rfl (fun K hK => ?_) AllReadyH.nil; go_simp; go_at_call 52; refine (isName_calls _ _ hsk).mono ?_; simp only [q1]; rintro e wd ⟨rfl, hb⟩; refine hK.out _ _ (by obtain ⟨x0_, x1_, x2_, x3_, x4_, x5_⟩ := hHeld; exact ⟨x0_.trans (hb.mono x0_.size), x1_.keep hb, cell_keep hb x2_, cell_keep hb x3_, cell_keep hb x4_, cell_keep hb x5_⟩) (fun hHeld2 => ?_); clear hK K hHeld hb; have hHeld := hHeld2; clear hHeld2; (try simp only [Act.put, List.setIfInBounds_toArray, List.set_cons_zero, List.set_cons_succ]))
              refine take_yes (i := 3) (d := 17) (v := ?_) _ rfl rfl (by kernel_rfl) (by kernel_rfl) (by kernel_rfl) (fun _ _ _ _ h => h) (by rfl) ?_ (by assumption) ?_
              rotate_left 1
              · ((intro w hSw; (try dsimp only at hSw); go_simp) <;> (try with_reducible rfl))
              (try simp only [Act.put, List.setIfInBounds_toArray, List.set_cons_zero, List.set_cons_succ])
              refine take_yes (i := 4) (d := 18) (v := ?_) _ rfl rfl (by kernel_rfl) (by kernel_rfl) (by kernel_rfl) (fun _ _ _ _ h => h) (by rfl) ?_ (by assumption) ?_
              rotate_left 1
              · ((intro w hSw; (try dsimp only at hSw); go_simp) <;> (try with_reducible rfl))
              (try simp only [Act.put, List.setIfInBounds_toArray, List.set_cons_zero, List.set_cons_succ])
              refine take_yes (i := 5) (d := 19) (v := ?_) _ rfl rfl (by kernel_rfl) (by kernel_rfl) (by kernel_rfl) (fun _ _ _ _ h => h) (by rfl) ?_ (by assumption) ?_
              rotate_left 1
              · ((intro w hSw; (try dsimp only at hSw); go_simp) <;> (try with_reducible rfl))
              (try simp only [Act.put, List.setIfInBounds_toArray, List.set_cons_zero, List.set_cons_succ])
              refine take_yes (i := 6) (d := 20) (v := ?_) _ rfl rfl (by kernel_rfl) (by kernel_rfl) (by kernel_rfl) (fun _ _ _ _ h => h) (by rfl) ?_ (by assumption) ?_
              rotate_left 1
              · ((intro w hSw; (try dsimp only at hSw); go_simp) <;> (try with_reducible rfl))
              (try simp only [Act.put, List.setIfInBounds_toArray, List.set_cons_zero, List.set_cons_succ])
              (refine wpAnyH_ready (rs := [7]) (by kernel_rfl) (by simp) ?_; refine AllReadyH.cons rfl (fun K hK => ?_) AllReadyH.nil; go_simp; go_at_call 53; refine (isMass_calls _ _).mono ?_; simp only [q2]; rintro e wd ⟨rfl, rfl⟩; refine hK.out _ _ (by assumption) (fun hHeld2 => ?_); clear hK K hHeld; have hHeld := hHeld2; clear hHeld2; (try simp only [Act.put, List.setIfInBounds_toArray, List.set_cons_zero, List.set_cons_succ]))
              refine take_yes (i := 8) (d := 22) (v := ?_) _ rfl rfl (by kernel_rfl) (by kernel_rfl) (by kernel_rfl) (fun _ _ _ _ h => h) (by rfl) ?_ (by assumption) ?_
              rotate_left 1
              · ((intro w hSw; (try dsimp only at hSw); go_simp) <;> (try with_reducible rfl))
              (try simp only [Act.put, List.setIfInBounds_toArray, List.set_cons_zero, List.set_cons_succ])
              refine take_yes (i := 9) (d := 23) (v := ?_) _ rfl rfl (by kernel_rfl) (by kernel_rfl) (by kernel_rfl) (fun _ _ _ _ h => h) (by rfl) ?_ (by assumption) ?_
              rotate_left 1
              · ((intro w hSw; (try dsimp only at hSw); go_simp) <;> (try with_reducible rfl))
              (try simp only [Act.put, List.setIfInBounds_toArray, List.set_cons_zero, List.set_cons_succ])
              refine take_yes (i := 10) (d := 24) (v := ?_) _ rfl rfl (by kernel_rfl) (by kernel_rfl) (by kernel_rfl) (fun _ _ _ _ h => h) (by rfl) ?_ (by assumption) ?_
              rotate_left 1
              · ((intro w hSw; (try dsimp only at hSw); go_simp) <;> (try with_reducible rfl))
              (try simp only [Act.put, List.setIfInBounds_toArray, List.set_cons_zero, List.set_cons_succ])
              refine take_yes (i := 11) (d := 25) (v := ?_) _ rfl rfl (by kernel_rfl) (by kernel_rfl) (by kernel_rfl) (fun _ _ _ _ h => h) (by rfl) ?_ (by assumption) ?_
              rotate_left 1
              · ((intro w hSw; (try dsimp only at hSw); go_simp) <;> (try with_reducible rfl))
              (try simp only [Act.put, List.setIfInBounds_toArray, List.set_cons_zero, List.set_cons_succ])
              refine take_yes (i := 12) (d := 26) (v := ?_) _ rfl rfl (by kernel_rfl) (by kernel_rfl) (by kernel_rfl) (fun _ _ _ _ h => h) (by rfl) ?_ (by assumption) ?_
              rotate_left 1
              · ((intro w hSw; (try dsimp only at hSw); go_simp) <;> (try with_reducible rfl))
              (try simp only [Act.put, List.setIfInBounds_toArray, List.set_cons_zero, List.set_cons_succ])
              refine take_yes (i := 13) (d := 27) (v := ?_) _ rfl rfl (by kernel_rfl) (by kernel_rfl) (by kernel_rfl) (fun _ _ _ _ h => h) (by rfl) ?_ (by assumption) ?_
              rotate_left 1
              · ((intro w hSw; (try dsimp only at hSw); go_simp) <;> (try with_reducible rfl))
              (try simp only [Act.put, List.setIfInBounds_toArray, List.set_cons_zero, List.set_cons_succ])
              refine take_yes (i := 14) (d := 28) (v := ?_) _ rfl rfl (by kernel_rfl) (by kernel_rfl) (by kernel_rfl) (fun _ _ _ _ h => h) (by rfl) ?_ (by assumption) ?_
              rotate_left 1
              · ((intro w hSw; (try dsimp only at hSw); go_simp) <;> (try with_reducible rfl))
              (try simp only [Act.put, List.setIfInBounds_toArray, List.set_cons_zero, List.set_cons_succ])
              refine take_yes (i := 15) (d := 29) (v := ?_) _ rfl rfl (by kernel_rfl) (by kernel_rfl) (by kernel_rfl) (fun _ _ _ _ h => h) (by rfl) ?_ (by assumption) ?_
              rotate_left 1
              · ((intro w hSw; (try dsimp only at hSw); go_simp) <;> (try with_reducible rfl))
              (try simp only [Act.put, List.setIfInBounds_toArray, List.set_cons_zero, List.set_cons_succ])
              refine take_yes (i := 16) (d := 30) (v := ?_) _ rfl rfl (by kernel_rfl) (by kernel_rfl) (by kernel_rfl) (fun _ _ _ _ h => h) (by rfl) ?_ (by assumption) ?_
              rotate_left 1
              · ((intro w hSw; (try dsimp only at hSw); go_simp) <;> (try with_reducible rfl))
              (try simp only [Act.put, List.setIfInBounds_toArray, List.set_cons_zero, List.set_cons_succ])
              refine take_yes (i := 17) (d := 31) (v := ?_) _ rfl rfl (by kernel_rfl) (by kernel_rfl) (by kernel_rfl) (fun _ _ _ _ h => h) (by rfl) ?_ (by assumption) ?_
              rotate_left 1
              · ((intro w hSw; (try dsimp only at hSw); go_simp) <;> (try with_reducible rfl))
              (try simp only [Act.put, List.setIfInBounds_toArray, List.set_cons_zero, List.set_cons_succ])
              refine take_yes (i := 18) (d := 32) (v := ?_) _ rfl rfl (by kernel_rfl) (by kernel_rfl) (by kernel_rfl) (fun _ _ _ _ h => h) (by rfl) ?_ (by assumption) ?_
              rotate_left 1
              · ((intro w hSw; (try dsimp only at hSw); go_simp) <;> (try with_reducible rfl))
              (try simp only [Act.put, List.setIfInBounds_toArray, List.set_cons_zero, List.set_cons_succ])
              refine take_yes (i := 19) (d := 33) (v := ?_) _ rfl rfl (by kernel_rfl) (by kernel_rfl) (by kernel_rfl) (fun _ _ _ _ h => h) (by rfl) ?_ (by assumption) ?_
              rotate_left 1
              · ((intro w hSw; (try dsimp only at hSw); go_simp) <;> (try with_reducible rfl))
              (try simp only [Act.put, List.setIfInBounds_toArray, List.set_cons_zero, List.set_cons_succ])
              refine take_yes (i := 20) (d := 34) (v := ?_) _ rfl rfl (by kernel_rfl) (by kernel_rfl) (by kernel_rfl) (fun _ _ _ _ h => h) (by rfl) ?_ (by assumption) ?_
              rotate_left 1
              · ((intro w hSw; (try dsimp only at hSw); go_simp) <;> (try with_reducible rfl))
              (try simp only [Act.put, List.setIfInBounds_toArray, List.set_cons_zero, List.set_cons_succ])
              refine take_yes (i := 21) (d := 35) (v := ?_) _ rfl rfl (by kernel_rfl) (by kernel_rfl) (by kernel_rfl) (fun _ _ _ _ h => h) (by rfl) ?_ (by assumption) ?_
              rotate_left 1
              · ((intro w hSw; (try dsimp only at hSw); go_simp) <;> (try with_reducible rfl))
              (try simp only [Act.put, List.setIfInBounds_toArray, List.set_cons_zero, List.set_cons_succ])
              refine take_yes (i := 22) (d := 36) (v := ?_) _ rfl rfl (by kernel_rfl) (by kernel_rfl) (by kernel_rfl) (fun _ _ _ _ h => h) (by rfl) ?_ (by assumption) ?_
              rotate_left 1
              · ((intro w hSw; (try dsimp only at hSw); go_simp) <;> (try with_reducible rfl))
              (try simp only [Act.put, List.setIfInBounds_toArray, List.set_cons_zero, List.set_cons_succ])
              refine take_yes (i := 23) (d := 37) (v := ?_) _ rfl rfl (by kernel_rfl) (by kernel_rfl) (by kernel_rfl) (fun _ _ _ _ h => h) (by rfl) ?_ (by assumption) ?_
              rotate_left 1
              · ((intro w hSw; (try dsimp only at hSw); go_simp) <;> (try with_reducible rfl))
              (try simp only [Act.put, List.setIfInBounds_toArray, List.set_cons_zero, List.set_cons_succ])
              refine take_yes (i := 24) (d := 38) (v := ?_) _ rfl rfl (by kernel_rfl) (by kernel_rfl) (by kernel_rfl) (fun _ _ _ _ h => h) (by rfl) ?_ (by assumption) ?_
              rotate_left 1
              · ((intro w hSw; (try dsimp only at hSw); go_simp) <;> (try with_reducible rfl))
              (try simp only [Act.put, List.setIfInBounds_toArray, List.set_cons_zero, List.set_cons_succ])
              refine take_yes (i := 25) (d := 39) (v := ?_) _ rfl rfl (by kernel_rfl) (by kernel_rfl) (by kernel_rfl) (fun _ _ _ _ h => h) (by rfl) ?_ (by assumption) ?_
              rotate_left 1
              · ((intro w hSw; (try dsimp only at hSw); go_simp) <;> (try with_reducible rfl))
              (try simp only [Act.put, List.setIfInBounds_toArray, List.set_cons_zero, List.set_cons_succ])
              refine wpAnyH_done (by kernel_rfl) ?_ _
              obtain ⟨z0, z1, z2, z3, z4, z5⟩ := hHeld
              have hbx2 := Lib.hid z1
              go_wp2
              go_roundw
              case rel => exact ⟨k + 1, v + ms (k), by omega, rfl, by go_num, by omega, by omega, Lib.hid (by rw [show sumI ms (k + 1) = sumI ms (k) + ms (k) from rfl, ← hv.out]), Lib.hid (sharesB_up hgood.out HK.out), z0, hbx2⟩
              case measure => simp [intOf]; omega
            · have hg1 := Lib.hid (show goodAt (fun i => shareB (ss i) (ms i)) ss k = false by rw [q3] at hle; rw [hg]; simpa using hle)
              clear hg hle
              have HK : Hid (goodAt (fun i => shareB (ss i) (ms i)) ss (k) = false) := Lib.hid (by exact hg1.out)
              go_wp2_with fail
              refine wp_gen (fun W0 hW0 => ?_)
              have s0_ : Below w.heap.size w W0 := by rw [hW0]; exact hbr.alloc hbr.size _
              have s1_ : Blk W0 w.heap.size 28 #[.string s, .int .i64 no, .int .i64 ma, .int .i64 fe, .slice (some ⟨b, o, none⟩) n c] := by rw [hW0]; exact hbx.out.alloc _
              have s2_ : W0.cell? ⟨w.heap.size, 4, none⟩ = some (.slice (some ⟨b, o, none⟩) n c) := (s1_.cell 4).trans rfl
              have s3_ : W0.cell? ⟨wr.heap.size, 0, none⟩ = some (.string (ss (k))) := by simp [hW0]
              have s4_ : W0.cell? ⟨wr.heap.size, 1, none⟩ = some (.int .i64 (ms (k))) := by simp [hW0]
              have s5_ : W0.cell? ⟨b, o + j * 2, none⟩ = some (.string (ss j)) := by rw [hW0]; exact cell_keep ((Below.refl _ _).alloc (Nat.le_refl _) _) pr
              clear hW0
              refine wp_region_held_drew (S := fun w' => Below w.heap.size w w' ∧ Blk w' w.heap.size 28 #[.string s, .int .i64 no, .int .i64 ma, .int .i64 fe, .slice (some ⟨b, o, none⟩) n c] ∧ w'.cell? ⟨w.heap.size, 4, none⟩ = some (.slice (some ⟨b, o, none⟩) n c) ∧ w'.cell? ⟨wr.heap.size, 0, none⟩ = some (.string (ss (k))) ∧ w'.cell? ⟨wr.heap.size, 1, none⟩ = some (.int .i64 (ms (k))) ∧ w'.cell? ⟨b, o + j * 2, none⟩ = some (.string (ss j))) (by kernel_rfl) ?_ (fun hHeld => ?_)
              · exact ⟨s0_.drew, s1_, s2_, s3_, s4_, s5_⟩
              clear s0_ s1_ s2_ s3_ s4_ s5_
              refine take_yes (i := 0) (d := 14) (v := ?_) _ rfl rfl (by kernel_rfl) (by kernel_rfl) (by kernel_rfl) (fun _ _ _ _ h => h) (by rfl) ?_ (by assumption) ?_
              rotate_left 1
              · ((intro w hSw; (try dsimp only at hSw); go_simp) <;> (try with_reducible rfl))
              (try simp only [Act.put, List.setIfInBounds_toArray, List.set_cons_zero, List.set_cons_succ])
              refine take_yes (i := 1) (d := 15) (v := ?_) _ rfl rfl (by kernel_rfl) (by kernel_rfl) (by kernel_rfl) (fun _ _ _ _ h => h) (by rfl) ?_ (by assumption) ?_
              rotate_left 1
              · ((intro w hSw; (try dsimp only at hSw); go_simp) <;> (try with_reducible rfl))
              (try simp only [Act.put, List.setIfInBounds_toArray, List.set_cons_zero, List.set_cons_succ])
              (refine wpAnyH_ready (rs := [2]) (by kernel_rfl) (by simp) ?_; refine AllReadyH.cons rfl (fun K hK => ?_) AllReadyH.nil; go_simp; go_at_call 52; refine (isName_calls _ _ hsk).mono ?_; simp only [q1]; rintro e wd ⟨rfl, hb⟩; refine hK.out _ _ (by obtain ⟨x0_, x1_, x2_, x3_, x4_, x5_⟩ := hHeld; exact ⟨x0_.trans (hb.mono x0_.size), x1_.keep hb, cell_keep hb x2_, cell_keep hb x3_, cell_keep hb x4_, cell_keep hb x5_⟩) (fun hHeld2 => ?_); clear hK K hHeld hb; have hHeld := hHeld2; clear hHeld2; (try simp only [Act.put, List.setIfInBounds_toArray, List.set_cons_zero, List.set_cons_succ]))
              refine take_yes (i := 3) (d := 17) (v := ?_) _ rfl rfl (by kernel_rfl) (by kernel_rfl) (by kernel_rfl) (fun _ _ _ _ h => h) (by rfl) ?_ (by assumption) ?_
              rotate_left 1
              · ((intro w hSw; (try dsimp only at hSw); go_simp) <;> (try with_reducible rfl))
              (try simp only [Act.put, List.setIfInBounds_toArray, List.set_cons_zero, List.set_cons_succ])
              refine take_yes (i := 4) (d := 18) (v := ?_) _ rfl rfl (by kernel_rfl) (by kernel_rfl) (by kernel_rfl) (fun _ _ _ _ h => h) (by rfl) ?_ (by assumption) ?_
              rotate_left 1
              · ((intro w hSw; (try dsimp only at hSw); go_simp) <;> (try with_reducible rfl))
              (try simp only [Act.put, List.setIfInBounds_toArray, List.set_cons_zero, List.set_cons_succ])
              refine take_yes (i := 5) (d := 19) (v := ?_) _ rfl rfl (by kernel_rfl) (by kernel_rfl) (by kernel_rfl) (fun _ _ _ _ h => h) (by rfl) ?_ (by assumption) ?_
              rotate_left 1
              · ((intro w hSw; (try dsimp only at hSw); go_simp) <;> (try with_reducible rfl))
              (try simp only [Act.put, List.setIfInBounds_toArray, List.set_cons_zero, List.set_cons_succ])
              refine take_yes (i := 6) (d := 20) (v := ?_) _ rfl rfl (by kernel_rfl) (by kernel_rfl) (by kernel_rfl) (fun _ _ _ _ h => h) (by rfl) ?_ (by assumption) ?_
              rotate_left 1
              · ((intro w hSw; (try dsimp only at hSw); go_simp) <;> (try with_reducible rfl))
              (try simp only [Act.put, List.setIfInBounds_toArray, List.set_cons_zero, List.set_cons_succ])
              (refine wpAnyH_ready (rs := [7]) (by kernel_rfl) (by simp) ?_; refine AllReadyH.cons rfl (fun K hK => ?_) AllReadyH.nil; go_simp; go_at_call 53; refine (isMass_calls _ _).mono ?_; simp only [q2]; rintro e wd ⟨rfl, rfl⟩; refine hK.out _ _ (by assumption) (fun hHeld2 => ?_); clear hK K hHeld; have hHeld := hHeld2; clear hHeld2; (try simp only [Act.put, List.setIfInBounds_toArray, List.set_cons_zero, List.set_cons_succ]))
              refine take_yes (i := 8) (d := 22) (v := ?_) _ rfl rfl (by kernel_rfl) (by kernel_rfl) (by kernel_rfl) (fun _ _ _ _ h => h) (by rfl) ?_ (by assumption) ?_
              rotate_left 1
              · ((intro w hSw; (try dsimp only at hSw); go_simp) <;> (try with_reducible rfl))
              (try simp only [Act.put, List.setIfInBounds_toArray, List.set_cons_zero, List.set_cons_succ])
              refine take_yes (i := 9) (d := 23) (v := ?_) _ rfl rfl (by kernel_rfl) (by kernel_rfl) (by kernel_rfl) (fun _ _ _ _ h => h) (by rfl) ?_ (by assumption) ?_
              rotate_left 1
              · ((intro w hSw; (try dsimp only at hSw); go_simp) <;> (try with_reducible rfl))
              (try simp only [Act.put, List.setIfInBounds_toArray, List.set_cons_zero, List.set_cons_succ])
              refine take_yes (i := 10) (d := 24) (v := ?_) _ rfl rfl (by kernel_rfl) (by kernel_rfl) (by kernel_rfl) (fun _ _ _ _ h => h) (by rfl) ?_ (by assumption) ?_
              rotate_left 1
              · ((intro w hSw; (try dsimp only at hSw); go_simp) <;> (try with_reducible rfl))
              (try simp only [Act.put, List.setIfInBounds_toArray, List.set_cons_zero, List.set_cons_succ])
              refine take_yes (i := 11) (d := 25) (v := ?_) _ rfl rfl (by kernel_rfl) (by kernel_rfl) (by kernel_rfl) (fun _ _ _ _ h => h) (by rfl) ?_ (by assumption) ?_
              rotate_left 1
              · ((intro w hSw; (try dsimp only at hSw); go_simp) <;> (try with_reducible rfl))
              (try simp only [Act.put, List.setIfInBounds_toArray, List.set_cons_zero, List.set_cons_succ])
              refine take_yes (i := 12) (d := 26) (v := ?_) _ rfl rfl (by kernel_rfl) (by kernel_rfl) (by kernel_rfl) (fun _ _ _ _ h => h) (by rfl) ?_ (by assumption) ?_
              rotate_left 1
              · ((intro w hSw; (try dsimp only at hSw); go_simp) <;> (try with_reducible rfl))
              (try simp only [Act.put, List.setIfInBounds_toArray, List.set_cons_zero, List.set_cons_succ])
              refine take_yes (i := 13) (d := 27) (v := ?_) _ rfl rfl (by kernel_rfl) (by kernel_rfl) (by kernel_rfl) (fun _ _ _ _ h => h) (by rfl) ?_ (by assumption) ?_
              rotate_left 1
              · ((intro w hSw; (try dsimp only at hSw); go_simp) <;> (try with_reducible rfl))
              (try simp only [Act.put, List.setIfInBounds_toArray, List.set_cons_zero, List.set_cons_succ])
              refine take_yes (i := 14) (d := 28) (v := ?_) _ rfl rfl (by kernel_rfl) (by kernel_rfl) (by kernel_rfl) (fun _ _ _ _ h => h) (by rfl) ?_ (by assumption) ?_
              rotate_left 1
              · ((intro w hSw; (try dsimp only at hSw); go_simp) <;> (try with_reducible rfl))
              (try simp only [Act.put, List.setIfInBounds_toArray, List.set_cons_zero, List.set_cons_succ])
              refine take_yes (i := 15) (d := 29) (v := ?_) _ rfl rfl (by kernel_rfl) (by kernel_rfl) (by kernel_rfl) (fun _ _ _ _ h => h) (by rfl) ?_ (by assumption) ?_
              rotate_left 1
              · ((intro w hSw; (try dsimp only at hSw); go_simp) <;> (try with_reducible rfl))
              (try simp only [Act.put, List.setIfInBounds_toArray, List.set_cons_zero, List.set_cons_succ])
              refine take_yes (i := 16) (d := 30) (v := ?_) _ rfl rfl (by kernel_rfl) (by kernel_rfl) (by kernel_rfl) (fun _ _ _ _ h => h) (by rfl) ?_ (by assumption) ?_
              rotate_left 1
              · ((intro w hSw; (try dsimp only at hSw); go_simp) <;> (try with_reducible rfl))
              (try simp only [Act.put, List.setIfInBounds_toArray, List.set_cons_zero, List.set_cons_succ])
              refine take_yes (i := 17) (d := 31) (v := ?_) _ rfl rfl (by kernel_rfl) (by kernel_rfl) (by kernel_rfl) (fun _ _ _ _ h => h) (by rfl) ?_ (by assumption) ?_
              rotate_left 1
              · ((intro w hSw; (try dsimp only at hSw); go_simp) <;> (try with_reducible rfl))
              (try simp only [Act.put, List.setIfInBounds_toArray, List.set_cons_zero, List.set_cons_succ])
              refine take_yes (i := 18) (d := 32) (v := ?_) _ rfl rfl (by kernel_rfl) (by kernel_rfl) (by kernel_rfl) (fun _ _ _ _ h => h) (by rfl) ?_ (by assumption) ?_
              rotate_left 1
              · ((intro w hSw; (try dsimp only at hSw); go_simp) <;> (try with_reducible rfl))
              (try simp only [Act.put, List.setIfInBounds_toArray, List.set_cons_zero, List.set_cons_succ])
              refine take_yes (i := 19) (d := 33) (v := ?_) _ rfl rfl (by kernel_rfl) (by kernel_rfl) (by kernel_rfl) (fun _ _ _ _ h => h) (by rfl) ?_ (by assumption) ?_
              rotate_left 1
              · ((intro w hSw; (try dsimp only at hSw); go_simp) <;> (try with_reducible rfl))
              (try simp only [Act.put, List.setIfInBounds_toArray, List.set_cons_zero, List.set_cons_succ])
              refine take_yes (i := 20) (d := 34) (v := ?_) _ rfl rfl (by kernel_rfl) (by kernel_rfl) (by kernel_rfl) (fun _ _ _ _ h => h) (by rfl) ?_ (by assumption) ?_
              rotate_left 1
              · ((intro w hSw; (try dsimp only at hSw); go_simp) <;> (try with_reducible rfl))
              (try simp only [Act.put, List.setIfInBounds_toArray, List.set_cons_zero, List.set_cons_succ])
              refine take_yes (i := 21) (d := 35) (v := ?_) _ rfl rfl (by kernel_rfl) (by kernel_rfl) (by kernel_rfl) (fun _ _ _ _ h => h) (by rfl) ?_ (by assumption) ?_
              rotate_left 1
              · ((intro w hSw; (try dsimp only at hSw); go_simp) <;> (try with_reducible rfl))
              (try simp only [Act.put, List.setIfInBounds_toArray, List.set_cons_zero, List.set_cons_succ])
              refine take_yes (i := 22) (d := 36) (v := ?_) _ rfl rfl (by kernel_rfl) (by kernel_rfl) (by kernel_rfl) (fun _ _ _ _ h => h) (by rfl) ?_ (by assumption) ?_
              rotate_left 1
              · ((intro w hSw; (try dsimp only at hSw); go_simp) <;> (try with_reducible rfl))
              (try simp only [Act.put, List.setIfInBounds_toArray, List.set_cons_zero, List.set_cons_succ])
              refine take_yes (i := 23) (d := 37) (v := ?_) _ rfl rfl (by kernel_rfl) (by kernel_rfl) (by kernel_rfl) (fun _ _ _ _ h => h) (by rfl) ?_ (by assumption) ?_
              rotate_left 1
              · ((intro w hSw; (try dsimp only at hSw); go_simp) <;> (try with_reducible rfl))
              (try simp only [Act.put, List.setIfInBounds_toArray, List.set_cons_zero, List.set_cons_succ])
              refine take_yes (i := 24) (d := 38) (v := ?_) _ rfl rfl (by kernel_rfl) (by kernel_rfl) (by kernel_rfl) (fun _ _ _ _ h => h) (by rfl) ?_ (by assumption) ?_
              rotate_left 1
              · ((intro w hSw; (try dsimp only at hSw); go_simp) <;> (try with_reducible rfl))
              (try simp only [Act.put, List.setIfInBounds_toArray, List.set_cons_zero, List.set_cons_succ])
              refine take_yes (i := 25) (d := 39) (v := ?_) _ rfl rfl (by kernel_rfl) (by kernel_rfl) (by kernel_rfl) (fun _ _ _ _ h => h) (by rfl) ?_ (by assumption) ?_
              rotate_left 1
              · ((intro w hSw; (try dsimp only at hSw); go_simp) <;> (try with_reducible rfl))
              (try simp only [Act.put, List.setIfInBounds_toArray, List.set_cons_zero, List.set_cons_succ])
              refine wpAnyH_done (by kernel_rfl) ?_ _
              obtain ⟨z0, z1, z2, z3, z4, z5⟩ := hHeld
              go_wp2
              go_ret
              exact ⟨ret_bool (by rw [← HRES.out, bellB_no hlt HK.out]), z0⟩
    · obtain rfl : k = n := by omega
      cases t1 : nameB s
      · skip
        have HE : Hid (bellB s no ma fe k ss ms = (nameB s && (inB no 0 127 && (inB ma 1 20000000 && (inB fe 0 20000000 && (decide ((1 : Int) ≤ k) && (decide ((k : Int) ≤ 4) && (v == ma + fe)))))))) := Lib.hid (by unfold bellB; rw [hgood.out, ← hv.out, Bool.true_and])
        have y0 := (hbx.out.cell 0).trans rfl
        have y4 := (hbx.out.cell 4).trans rfl
        go_wp2_with (first | (go_at_call 52; refine (isName_calls _ _ hs).mono ?_; simp only [t1]; rintro e w1 ⟨rfl, hb⟩; have G := hbx.out.keep hb; clear y0 y4; have y1 := (G.cell 1).trans rfl; have y2 := (G.cell 2).trans rfl; have y3 := (G.cell 3).trans rfl; have y4 := (G.cell 4).trans rfl; replace hbr := hbr.trans (hb.mono hbr.size); clear hb G) | (go_at_call 53; refine (isMass_calls _ _).mono ?_; rintro e w1 ⟨rfl, rfl⟩) | (go_at_call 54; refine (within_calls _ _ _ _).mono ?_; rintro e w1 ⟨rfl, rfl⟩))
        go_ret
        exact ⟨ret_bool (by rw [← HRES.out, HE.out]; simp [*]), hbr⟩
      · cases t2 : inB no 0 127
        · skip
          have HE : Hid (bellB s no ma fe k ss ms = (nameB s && (inB no 0 127 && (inB ma 1 20000000 && (inB fe 0 20000000 && (decide ((1 : Int) ≤ k) && (decide ((k : Int) ≤ 4) && (v == ma + fe)))))))) := Lib.hid (by unfold bellB; rw [hgood.out, ← hv.out, Bool.true_and])
          have y0 := (hbx.out.cell 0).trans rfl
          have y4 := (hbx.out.cell 4).trans rfl
          go_wp2_with (first | (go_at_call 52; refine (isName_calls _ _ hs).mono ?_; simp only [t1]; rintro e w1 ⟨rfl, hb⟩; have G := hbx.out.keep hb; clear y0 y4; have y1 := (G.cell 1).trans rfl; have y2 := (G.cell 2).trans rfl; have y3 := (G.cell 3).trans rfl; have y4 := (G.cell 4).trans rfl; replace hbr := hbr.trans (hb.mono hbr.size); clear hb G) | (go_at_call 53; refine (isMass_calls _ _).mono ?_; rintro e w1 ⟨rfl, rfl⟩) | (go_at_call 54; refine (within_calls _ _ _ _).mono ?_; rintro e w1 ⟨rfl, rfl⟩))
          go_ret
          exact ⟨ret_bool (by rw [← HRES.out, HE.out]; simp [*]), hbr⟩
        · cases t3 : inB ma 1 20000000
          · skip
            have HE : Hid (bellB s no ma fe k ss ms = (nameB s && (inB no 0 127 && (inB ma 1 20000000 && (inB fe 0 20000000 && (decide ((1 : Int) ≤ k) && (decide ((k : Int) ≤ 4) && (v == ma + fe)))))))) := Lib.hid (by unfold bellB; rw [hgood.out, ← hv.out, Bool.true_and])
            have y0 := (hbx.out.cell 0).trans rfl
            have y4 := (hbx.out.cell 4).trans rfl
            go_wp2_with (first | (go_at_call 52; refine (isName_calls _ _ hs).mono ?_; simp only [t1]; rintro e w1 ⟨rfl, hb⟩; have G := hbx.out.keep hb; clear y0 y4; have y1 := (G.cell 1).trans rfl; have y2 := (G.cell 2).trans rfl; have y3 := (G.cell 3).trans rfl; have y4 := (G.cell 4).trans rfl; replace hbr := hbr.trans (hb.mono hbr.size); clear hb G) | (go_at_call 53; refine (isMass_calls _ _).mono ?_; rintro e w1 ⟨rfl, rfl⟩) | (go_at_call 54; refine (within_calls _ _ _ _).mono ?_; rintro e w1 ⟨rfl, rfl⟩))
            go_ret
            exact ⟨ret_bool (by rw [← HRES.out, HE.out]; simp [*]), hbr⟩
          · cases t4 : inB fe 0 20000000
            · skip
              have HE : Hid (bellB s no ma fe k ss ms = (nameB s && (inB no 0 127 && (inB ma 1 20000000 && (inB fe 0 20000000 && (decide ((1 : Int) ≤ k) && (decide ((k : Int) ≤ 4) && (v == ma + fe)))))))) := Lib.hid (by unfold bellB; rw [hgood.out, ← hv.out, Bool.true_and])
              have y0 := (hbx.out.cell 0).trans rfl
              have y4 := (hbx.out.cell 4).trans rfl
              go_wp2_with (first | (go_at_call 52; refine (isName_calls _ _ hs).mono ?_; simp only [t1]; rintro e w1 ⟨rfl, hb⟩; have G := hbx.out.keep hb; clear y0 y4; have y1 := (G.cell 1).trans rfl; have y2 := (G.cell 2).trans rfl; have y3 := (G.cell 3).trans rfl; have y4 := (G.cell 4).trans rfl; replace hbr := hbr.trans (hb.mono hbr.size); clear hb G) | (go_at_call 53; refine (isMass_calls _ _).mono ?_; rintro e w1 ⟨rfl, rfl⟩) | (go_at_call 54; refine (within_calls _ _ _ _).mono ?_; rintro e w1 ⟨rfl, rfl⟩))
              go_ret
              exact ⟨ret_bool (by rw [← HRES.out, HE.out]; simp [*]), hbr⟩
            · obtain ⟨u0, u1⟩ := inB_iff.1 t3
              obtain ⟨u2, u3⟩ := inB_iff.1 t4
              have e1 : IntKind.i64.wrap (ma + fe) = ma + fe := IntWalk.i64_in _ ⟨by omega, by omega⟩
              by_cases t5 : (1 : Int) ≤ k
              · have g5 : decide ((1 : Int) ≤ k) = true := decide_eq_true t5
                have g5n : decide (1 ≤ k) = true := decide_eq_true (by omega)
                by_cases t6 : (k : Int) ≤ 4
                · have g6 : decide ((k : Int) ≤ 4) = true := decide_eq_true t6
                  have g6n : decide (k ≤ 4) = true := decide_eq_true (by omega)
                  cases t7 : (v == ma + fe)
                  · skip
                    have HE : Hid (bellB s no ma fe k ss ms = (nameB s && (inB no 0 127 && (inB ma 1 20000000 && (inB fe 0 20000000 && (decide ((1 : Int) ≤ k) && (decide ((k : Int) ≤ 4) && (v == ma + fe)))))))) := Lib.hid (by unfold bellB; rw [hgood.out, ← hv.out, Bool.true_and])
                    have y0 := (hbx.out.cell 0).trans rfl
                    have y4 := (hbx.out.cell 4).trans rfl
                    go_wp2_with (first | (go_at_call 52; refine (isName_calls _ _ hs).mono ?_; simp only [t1]; rintro e w1 ⟨rfl, hb⟩; have G := hbx.out.keep hb; clear y0 y4; have y1 := (G.cell 1).trans rfl; have y2 := (G.cell 2).trans rfl; have y3 := (G.cell 3).trans rfl; have y4 := (G.cell 4).trans rfl; replace hbr := hbr.trans (hb.mono hbr.size); clear hb G) | (go_at_call 53; refine (isMass_calls _ _).mono ?_; rintro e w1 ⟨rfl, rfl⟩) | (go_at_call 54; refine (within_calls _ _ _ _).mono ?_; rintro e w1 ⟨rfl, rfl⟩))
                    go_ret
                    exact ⟨ret_bool (by rw [← HRES.out, HE.out]; simp [*]), hbr⟩
                  · skip
                    have HE : Hid (bellB s no ma fe k ss ms = (nameB s && (inB no 0 127 && (inB ma 1 20000000 && (inB fe 0 20000000 && (decide ((1 : Int) ≤ k) && (decide ((k : Int) ≤ 4) && (v == ma + fe)))))))) := Lib.hid (by unfold bellB; rw [hgood.out, ← hv.out, Bool.true_and])
                    have y0 := (hbx.out.cell 0).trans rfl
                    have y4 := (hbx.out.cell 4).trans rfl
                    go_wp2_with (first | (go_at_call 52; refine (isName_calls _ _ hs).mono ?_; simp only [t1]; rintro e w1 ⟨rfl, hb⟩; have G := hbx.out.keep hb; clear y0 y4; have y1 := (G.cell 1).trans rfl; have y2 := (G.cell 2).trans rfl; have y3 := (G.cell 3).trans rfl; have y4 := (G.cell 4).trans rfl; replace hbr := hbr.trans (hb.mono hbr.size); clear hb G) | (go_at_call 53; refine (isMass_calls _ _).mono ?_; rintro e w1 ⟨rfl, rfl⟩) | (go_at_call 54; refine (within_calls _ _ _ _).mono ?_; rintro e w1 ⟨rfl, rfl⟩))
                    go_ret
                    exact ⟨ret_bool (by rw [← HRES.out, HE.out]; simp [*]), hbr⟩
                · have g6 : decide ((k : Int) ≤ 4) = false := decide_eq_false t6
                  have g6n : decide (k ≤ 4) = false := decide_eq_false (by omega)
                  clear e1
                  · skip
                    have HE : Hid (bellB s no ma fe k ss ms = (nameB s && (inB no 0 127 && (inB ma 1 20000000 && (inB fe 0 20000000 && (decide ((1 : Int) ≤ k) && (decide ((k : Int) ≤ 4) && (v == ma + fe)))))))) := Lib.hid (by unfold bellB; rw [hgood.out, ← hv.out, Bool.true_and])
                    have y0 := (hbx.out.cell 0).trans rfl
                    have y4 := (hbx.out.cell 4).trans rfl
                    go_wp2_with (first | (go_at_call 52; refine (isName_calls _ _ hs).mono ?_; simp only [t1]; rintro e w1 ⟨rfl, hb⟩; have G := hbx.out.keep hb; clear y0 y4; have y1 := (G.cell 1).trans rfl; have y2 := (G.cell 2).trans rfl; have y3 := (G.cell 3).trans rfl; have y4 := (G.cell 4).trans rfl; replace hbr := hbr.trans (hb.mono hbr.size); clear hb G) | (go_at_call 53; refine (isMass_calls _ _).mono ?_; rintro e w1 ⟨rfl, rfl⟩) | (go_at_call 54; refine (within_calls _ _ _ _).mono ?_; rintro e w1 ⟨rfl, rfl⟩))
                    go_ret
                    exact ⟨ret_bool (by rw [← HRES.out, HE.out]; simp [*]), hbr⟩
              · have g5 : decide ((1 : Int) ≤ k) = false := decide_eq_false t5
                have g5n : decide (1 ≤ k) = false := decide_eq_false (by omega)
                clear e1
                · skip
                  have HE : Hid (bellB s no ma fe k ss ms = (nameB s && (inB no 0 127 && (inB ma 1 20000000 && (inB fe 0 20000000 && (decide ((1 : Int) ≤ k) && (decide ((k : Int) ≤ 4) && (v == ma + fe)))))))) := Lib.hid (by unfold bellB; rw [hgood.out, ← hv.out, Bool.true_and])
                  have y0 := (hbx.out.cell 0).trans rfl
                  have y4 := (hbx.out.cell 4).trans rfl
                  go_wp2_with (first | (go_at_call 52; refine (isName_calls _ _ hs).mono ?_; simp only [t1]; rintro e w1 ⟨rfl, hb⟩; have G := hbx.out.keep hb; clear y0 y4; have y1 := (G.cell 1).trans rfl; have y2 := (G.cell 2).trans rfl; have y3 := (G.cell 3).trans rfl; have y4 := (G.cell 4).trans rfl; replace hbr := hbr.trans (hb.mono hbr.size); clear hb G) | (go_at_call 53; refine (isMass_calls _ _).mono ?_; rintro e w1 ⟨rfl, rfl⟩) | (go_at_call 54; refine (within_calls _ _ _ _).mono ?_; rintro e w1 ⟨rfl, rfl⟩))
                  go_ret
                  exact ⟨ret_bool (by rw [← HRES.out, HE.out]; simp [*]), hbr⟩
set_option maxRecDepth 100000 in
set_option maxHeartbeats 4000000 in
theorem sbell_calls (bb oo : Nat) (s : ByteArray) (no ma fe : Int) (A : Option Addr) (n c : Nat) (ss : Nat → ByteArray) (ms : Nat → Int) (w : World) (hs : s.size ≤ maxLen) (h : ShareRow w A n ss ms) (hss : ∀ i, i < n → (ss i).size ≤ maxLen) (hn : n ≤ 1048576)
    (c0 : w.cell? ⟨bb, oo, none⟩ = some (.string s)) (c1 : w.cell? ⟨bb, oo + 1, none⟩ = some (.int .i64 no)) (c2 : w.cell? ⟨bb, oo + 2, none⟩ = some (.int .i64 ma)) (c3 : w.cell? ⟨bb, oo + 3, none⟩ = some (.int .i64 fe)) (c4 : w.cell? ⟨bb, oo + 4, none⟩ = some (.slice A n c)) :
    Calls Tryz.prog 70 #[.pointer (some ⟨bb, oo, none⟩)] w fun e w' => e = .returned (.bool (bellB s no ma fe n ss ms)) ∧ ∃ m, w' = w.drewN m := by
  generalize hres : bellB s no ma fe n ss ms = R
  have HRES := Lib.hid hres
  have H := Lib.hid h
  have HSS := Lib.hid hss
  clear h hss hres
  cases t1 : nameB s
  · go_enter Tryz.func70, Tryz.ntmps70
    go_wp2_with (first | (go_at_call 93; refine (sname_calls _ _ hs).mono ?_; rintro e w1 ⟨rfl, rfl⟩) | (go_at_call 94; refine (in_calls _ _ _ _).mono ?_; rintro e w1 ⟨rfl, rfl⟩))
    go_ret
    exact ⟨ret_bool (by rw [← HRES.out]; simp [bellB, *]), 0, rfl⟩
  · cases t2 : inB no 0 127
    · go_enter Tryz.func70, Tryz.ntmps70
      go_wp2_with (first | (go_at_call 93; refine (sname_calls _ _ hs).mono ?_; rintro e w1 ⟨rfl, rfl⟩) | (go_at_call 94; refine (in_calls _ _ _ _).mono ?_; rintro e w1 ⟨rfl, rfl⟩))
      go_ret
      exact ⟨ret_bool (by rw [← HRES.out]; simp [bellB, *]), 0, rfl⟩
    · cases t3 : inB ma 1 20000000
      · go_enter Tryz.func70, Tryz.ntmps70
        go_wp2_with (first | (go_at_call 93; refine (sname_calls _ _ hs).mono ?_; rintro e w1 ⟨rfl, rfl⟩) | (go_at_call 94; refine (in_calls _ _ _ _).mono ?_; rintro e w1 ⟨rfl, rfl⟩))
        go_ret
        exact ⟨ret_bool (by rw [← HRES.out]; simp [bellB, *]), 0, rfl⟩
      · cases t4 : inB fe 0 20000000
        · go_enter Tryz.func70, Tryz.ntmps70
          go_wp2_with (first | (go_at_call 93; refine (sname_calls _ _ hs).mono ?_; rintro e w1 ⟨rfl, rfl⟩) | (go_at_call 94; refine (in_calls _ _ _ _).mono ?_; rintro e w1 ⟨rfl, rfl⟩))
          go_ret
          exact ⟨ret_bool (by rw [← HRES.out]; simp [bellB, *]), 0, rfl⟩
        · obtain ⟨u0, u1⟩ := inB_iff.1 t3
          obtain ⟨u2, u3⟩ := inB_iff.1 t4
          by_cases t5 : (1 : Int) ≤ n
          · by_cases t6 : (n : Int) ≤ 4
            · have T := Lib.hid (⟨t1, t2, t3, t4, t5, t6⟩ : nameB s = true ∧ inB no 0 127 = true ∧ inB ma 1 20000000 = true ∧ inB fe 0 20000000 = true ∧ (1 : Int) ≤ n ∧ (n : Int) ≤ 4)
              go_enter Tryz.func70, Tryz.ntmps70
              go_wp2_with (first | (go_at_call 93; refine (sname_calls _ _ hs).mono ?_; rintro e w1 ⟨rfl, rfl⟩) | (go_at_call 94; refine (in_calls _ _ _ _).mono ?_; rintro e w1 ⟨rfl, rfl⟩))
              clear t1 t2 t3 t4
              go_loopw [3, 4] (fun sm i wr => ∃ (k : Nat) (v : Int), k ≤ n ∧ sm = .int .i64 v ∧ i = .int .i64 k ∧ 0 ≤ v ∧ v ≤ 20000000 * k ∧ Hid (v = sumI ms k) ∧ Hid (sharesB ss ms k = true) ∧ Hid (∃ m, wr = w.drewN m)) (fun _ i _ => n - (intOf i).toNat)
              case atStart => exact ⟨0, 0, by omega, rfl, rfl, by omega, by omega, rfl, rfl, Lib.hid ⟨0, rfl⟩⟩
              case round =>
                obtain ⟨k, v, hk, rfl, rfl, v0, v1, hv, hgood, hwr⟩ := hrel
                have d4 : wr.cell? ⟨bb, oo + 4, none⟩ = some (.slice A n c) := by obtain ⟨m, hm⟩ := hwr.out; rw [hm]; exact c4
                by_cases hlt : k < n
                · have hsk := HSS.out k hlt
                  obtain ⟨b, o, rfl, hrow⟩ := H.out (by omega)
                  have hall : ∀ i, i < n → ShareAt wr b (o + i * 2) (ss i) (ms i) := fun i hi => by obtain ⟨m, hm⟩ := hwr.out; rw [hm]; exact hrow i hi
                  obtain ⟨e0, e1⟩ := hall k hlt
                  have HR := Lib.hid hall
                  clear hrow hall
                  cases q1 : nameB (ss k)
                  · have HK : Hid (goodAt (fun i => shareB (ss i) (ms i)) ss k = false) := Lib.hid (by simp [goodAt, shareB, q1])
                    have HCN := Lib.hid (show ∀ m, Calls Tryz.prog 93 #[.string (ss k)] (wr.drewN m) (fun e w' => e = .returned (.bool false) ∧ wr.drewN m = w') from fun m => by have hq := sname_calls (ss k) (wr.drewN m) hsk; rwa [q1] at hq)
                    have HCI := Lib.hid (show ∀ m, Calls Tryz.prog 94 #[.int .i64 (ms k), .int .i64 1, .int .i64 20000000] (wr.drewN m) (fun e w' => e = .returned (.bool (inB (ms k) 1 20000000)) ∧ wr.drewN m = w') from fun m => in_calls _ _ _ _)
                    go_wp2_with fail
                    go_quiet (first | (go_at_call 93; with_reducible exact quiet_left (HCN.out _)) | (go_at_call 94; with_reducible exact quiet_left (HCI.out _)))
                    go_wp2
                    go_ret
                    exact ⟨ret_bool (by rw [← HRES.out, bellB_no hlt HK.out]), by obtain ⟨m, hm⟩ := hwr.out; rw [hm]; exact ⟨_, World.drewN_drewN _ _ _⟩⟩
                  · cases q2 : inB (ms k) 1 20000000
                    · have HK : Hid (goodAt (fun i => shareB (ss i) (ms i)) ss k = false) := Lib.hid (by simp [goodAt, shareB, q2])
                      have HCN := Lib.hid (show ∀ m, Calls Tryz.prog 93 #[.string (ss k)] (wr.drewN m) (fun e w' => e = .returned (.bool true) ∧ wr.drewN m = w') from fun m => by have hq := sname_calls (ss k) (wr.drewN m) hsk; rwa [q1] at hq)
                      have HCI := Lib.hid (show ∀ m, Calls Tryz.prog 94 #[.int .i64 (ms k), .int .i64 1, .int .i64 20000000] (wr.drewN m) (fun e w' => e = .returned (.bool (inB (ms k) 1 20000000)) ∧ wr.drewN m = w') from fun m => in_calls _ _ _ _)
                      go_wp2_with fail
                      go_quiet (first | (go_at_call 93; with_reducible exact quiet_left (HCN.out _)) | (go_at_call 94; with_reducible exact quiet_left (HCI.out _)))
                      go_wp2
                      go_ret
                      exact ⟨ret_bool (by rw [← HRES.out, bellB_no hlt HK.out]), by obtain ⟨m, hm⟩ := hwr.out; rw [hm]; exact ⟨_, World.drewN_drewN _ _ _⟩⟩
                    · obtain ⟨mb0, mb1⟩ := inB_iff.1 q2
                      rcases Nat.eq_zero_or_pos k with hz | hz
                      · have hd1 : decide ((0 : Int) < (k : Int)) = false := decide_eq_false (by omega)
                        have hd2 : decide (0 < k) = false := decide_eq_false (by omega)
                        have HK : Hid (goodAt (fun i => shareB (ss i) (ms i)) ss k = true) := Lib.hid (by subst hz; simp [goodAt, shareB, q1, q2])
                        clear hz
                        have HCN := Lib.hid (show ∀ m, Calls Tryz.prog 93 #[.string (ss k)] (wr.drewN m) (fun e w' => e = .returned (.bool true) ∧ wr.drewN m = w') from fun m => by have hq := sname_calls (ss k) (wr.drewN m) hsk; rwa [q1] at hq)
                        have HCI := Lib.hid (show ∀ m, Calls Tryz.prog 94 #[.int .i64 (ms k), .int .i64 1, .int .i64 20000000] (wr.drewN m) (fun e w' => e = .returned (.bool (inB (ms k) 1 20000000)) ∧ wr.drewN m = w') from fun m => in_calls _ _ _ _)
                        go_wp2_with fail
                        go_quiet (first | (go_at_call 93; with_reducible exact quiet_left (HCN.out _)) | (go_at_call 94; with_reducible exact quiet_left (HCI.out _)))
                        go_wp2
                        go_roundw
                        case rel => exact ⟨k + 1, v + ms k, by omega, rfl, by go_num, by omega, by omega, Lib.hid (by rw [show sumI ms (k + 1) = sumI ms k + ms k from rfl, ← hv.out]), Lib.hid (sharesB_up hgood.out HK.out), Lib.hid (by obtain ⟨m, hm⟩ := hwr.out; rw [hm]; exact ⟨_, World.drewN_drewN _ _ _⟩)⟩
                        case measure => simp [intOf]; omega
                      · obtain ⟨j, hj⟩ : ∃ j, k = j + 1 := ⟨k - 1, by omega⟩
                        have pr := (HR.out j (by omega)).1
                        have hd1 : decide ((0 : Int) < (k : Int)) = true := decide_eq_true (by omega)
                        have hd2 : decide (0 < k) = true := decide_eq_true (by omega)
                        have hw : IntKind.i64.wrap ((k : Int) - 1) = (j : Int) := (IntWalk.i64_in _ ⟨by omega, by omega⟩).trans (by omega)
                        have hjn : j < n := by omega
                        have hg : goodAt (fun i => shareB (ss i) (ms i)) ss k = Op.bytesLess (ss j).toList (ss k).toList := by subst hj; simp [goodAt, shareB, q1, q2]
                        clear hj hz
                        cases q3 : Op.bytesLess (ss j).toList (ss k).toList
                        · have HK : Hid (goodAt (fun i => shareB (ss i) (ms i)) ss k = false) := Lib.hid (by rw [hg, q3])
                          clear hg
                          have HCN := Lib.hid (show ∀ m, Calls Tryz.prog 93 #[.string (ss k)] (wr.drewN m) (fun e w' => e = .returned (.bool true) ∧ wr.drewN m = w') from fun m => by have hq := sname_calls (ss k) (wr.drewN m) hsk; rwa [q1] at hq)
                          have HCI := Lib.hid (show ∀ m, Calls Tryz.prog 94 #[.int .i64 (ms k), .int .i64 1, .int .i64 20000000] (wr.drewN m) (fun e w' => e = .returned (.bool (inB (ms k) 1 20000000)) ∧ wr.drewN m = w') from fun m => in_calls _ _ _ _)
                          go_wp2_with fail
                          go_quiet (first | (go_at_call 93; with_reducible exact quiet_left (HCN.out _)) | (go_at_call 94; with_reducible exact quiet_left (HCI.out _)))
                          go_wp2
                          go_ret
                          exact ⟨ret_bool (by rw [← HRES.out, bellB_no hlt HK.out]), by obtain ⟨m, hm⟩ := hwr.out; rw [hm]; exact ⟨_, World.drewN_drewN _ _ _⟩⟩
                        · have HK : Hid (goodAt (fun i => shareB (ss i) (ms i)) ss k = true) := Lib.hid (by rw [hg, q3])
                          clear hg
                          have HCN := Lib.hid (show ∀ m, Calls Tryz.prog 93 #[.string (ss k)] (wr.drewN m) (fun e w' => e = .returned (.bool true) ∧ wr.drewN m = w') from fun m => by have hq := sname_calls (ss k) (wr.drewN m) hsk; rwa [q1] at hq)
                          have HCI := Lib.hid (show ∀ m, Calls Tryz.prog 94 #[.int .i64 (ms k), .int .i64 1, .int .i64 20000000] (wr.drewN m) (fun e w' => e = .returned (.bool (inB (ms k) 1 20000000)) ∧ wr.drewN m = w') from fun m => in_calls _ _ _ _)
                          go_wp2_with fail
                          go_quiet (first | (go_at_call 93; with_reducible exact quiet_left (HCN.out _)) | (go_at_call 94; with_reducible exact quiet_left (HCI.out _)))
                          go_wp2
                          go_roundw
                          case rel => exact ⟨k + 1, v + ms k, by omega, rfl, by go_num, by omega, by omega, Lib.hid (by rw [show sumI ms (k + 1) = sumI ms k + ms k from rfl, ← hv.out]), Lib.hid (sharesB_up hgood.out HK.out), Lib.hid (by obtain ⟨m, hm⟩ := hwr.out; rw [hm]; exact ⟨_, World.drewN_drewN _ _ _⟩)⟩
                          case measure => simp [intOf]; omega
                · obtain rfl : k = n := by omega
                  have d2 : wr.cell? ⟨bb, oo + 2, none⟩ = some (.int .i64 ma) := by obtain ⟨m, hm⟩ := hwr.out; rw [hm]; exact c2
                  have d3 : wr.cell? ⟨bb, oo + 3, none⟩ = some (.int .i64 fe) := by obtain ⟨m, hm⟩ := hwr.out; rw [hm]; exact c3
                  have w1 : IntKind.i64.wrap (ma + fe) = ma + fe := IntWalk.i64_in _ ⟨by omega, by omega⟩
                  have HE : Hid (bellB s no ma fe k ss ms = (v == ma + fe)) := Lib.hid (by obtain ⟨a1, a2, a3, a4, a5, a6⟩ := T.out; unfold bellB; rw [hgood.out, ← hv.out, a1, a2, a3, a4, decide_eq_true a5, decide_eq_true a6]; rfl)
                  go_wp2_with fail
                  go_quiet (fail)
                  go_wp2
                  go_ret
                  exact ⟨ret_bool (by rw [← HRES.out, HE.out]), by obtain ⟨m, hm⟩ := hwr.out; rw [hm]; exact ⟨_, World.drewN_drewN _ _ _⟩⟩
            · have hz2 : decide ((n : Int) ≤ 4) = false := decide_eq_false t6; have hz3 : decide ((4 : Int) < n) = true := decide_eq_true (by omega); have hz4 : decide (4 < n) = true := decide_eq_true (by omega); clear t6
              go_enter Tryz.func70, Tryz.ntmps70
              go_wp2_with (first | (go_at_call 93; refine (sname_calls _ _ hs).mono ?_; rintro e w1 ⟨rfl, rfl⟩) | (go_at_call 94; refine (in_calls _ _ _ _).mono ?_; rintro e w1 ⟨rfl, rfl⟩))
              go_ret
              exact ⟨ret_bool (by rw [← HRES.out]; simp [bellB, hz2]), 0, rfl⟩
          · obtain rfl : n = 0 := (by omega); have hz2 : decide ((1 : Int) ≤ (0 : Nat)) = false := rfl; clear t5
            go_enter Tryz.func70, Tryz.ntmps70
            go_wp2_with (first | (go_at_call 93; refine (sname_calls _ _ hs).mono ?_; rintro e w1 ⟨rfl, rfl⟩) | (go_at_call 94; refine (in_calls _ _ _ _).mono ?_; rintro e w1 ⟨rfl, rfl⟩))
            go_ret
            exact ⟨ret_bool (by rw [← HRES.out]; simp [bellB, hz2]), 0, rfl⟩
end Go.Proofs.YticnpibkpfpojaaGreatDoor
