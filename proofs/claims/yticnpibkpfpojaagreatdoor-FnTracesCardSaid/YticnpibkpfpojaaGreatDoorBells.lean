/- Lists of bells: how they read; which are valid, in the program and in the reference. For all lists of bells with up to 2^20 shares each. -/
import Derived.Test.YticnpibkpfpojaaGreatDoorBell2
namespace Go.Proofs.YticnpibkpfpojaaGreatDoor
set_option linter.unusedVariables false
set_option linter.unusedSimpArgs false
open Go.RowKit

/-- a bell, whatever memory it lies in -/
structure BellV where
  id : ByteArray
  no : Int
  ma : Int
  fe : Int
  n : Nat
  ss : Nat → ByteArray
  ms : Nat → Int
/-- the bell at ⟨b, o⟩ reads as x -/
def BellAt (w : World) (b o : Nat) (x : BellV) : Prop := ∃ A c, w.cell? ⟨b, o, none⟩ = some (.string x.id) ∧ w.cell? ⟨b, o + 1, none⟩ = some (.int .i64 x.no) ∧ w.cell? ⟨b, o + 2, none⟩ = some (.int .i64 x.ma) ∧ w.cell? ⟨b, o + 3, none⟩ = some (.int .i64 x.fe) ∧ w.cell? ⟨b, o + 4, none⟩ = some (.slice A x.n c) ∧ ShareRow w A x.n x.ss x.ms
def BellRow (w : World) (A : Option Addr) (n : Nat) (f : Nat → BellV) : Prop := 0 < n → ∃ b o, A = some ⟨b, o, none⟩ ∧ ∀ i, i < n → BellAt w b (o + i * 5) (f i)
theorem BellAt.keep {w w' : World} {b o : Nat} {x : BellV} (h : BellAt w b o x) (hb : Below w.heap.size w w') : BellAt w' b o x := by
  obtain ⟨A, c, h0, h1, h2, h3, h4, h5⟩ := h
  exact ⟨A, c, cell_keep hb h0, cell_keep hb h1, cell_keep hb h2, cell_keep hb h3, cell_keep hb h4, h5.keep hb⟩
theorem BellAt.drewN {w : World} {b o : Nat} {x : BellV} (h : BellAt w b o x) (m : Nat) : BellAt (w.drewN m) b o x := h
theorem BellAt.lt {w : World} {b o : Nat} {x : BellV} (h : BellAt w b o x) : b < w.heap.size := by
  obtain ⟨A, c, h0, -⟩ := h
  exact cell_lt h0
theorem BellRow.keep {w w' : World} {A : Option Addr} {n : Nat} {f : Nat → BellV} (h : BellRow w A n f) (hb : Below w.heap.size w w') : BellRow w' A n f := fun hn => by
  obtain ⟨b, o, hA, hall⟩ := h hn
  exact ⟨b, o, hA, fun i hi => (hall i hi).keep hb⟩
theorem BellRow.below {w w' : World} {A : Option Addr} {n B : Nat} {f : Nat → BellV} (h : BellRow w A n f) (hb : Below B w w') (hB : w.heap.size ≤ B) : BellRow w' A n f := h.keep (hb.mono hB)
noncomputable def bellV (x : BellV) : Bool := bellB x.id x.no x.ma x.fe x.n x.ss x.ms
noncomputable def bellsOk (f : Nat → BellV) (n : Nat) : Bool := allB (goodAt (fun i => bellV (f i)) (fun i => (f i).id)) n
def Fine (x : BellV) : Prop := x.id.size ≤ maxLen ∧ (∀ i, i < x.n → (x.ss i).size ≤ maxLen) ∧ x.n ≤ 1048576
theorem bellsOk_up {f : Nat → BellV} {k : Nat} (h : bellsOk f k = true) (hk : goodAt (fun i => bellV (f i)) (fun i => (f i).id) k = true) : bellsOk f (k + 1) = true := by
  rw [show bellsOk f (k + 1) = (bellsOk f k && goodAt (fun i => bellV (f i)) (fun i => (f i).id) k) from rfl, h, hk]; rfl
theorem bellsOk_no {f : Nat → BellV} {n k : Nat} (hk : k < n) (h : goodAt (fun i => bellV (f i)) (fun i => (f i).id) k = false) : (bellsOk f n && decide ((n : Int) ≤ 24)) = false := by
  unfold bellsOk
  rw [allB_no hk h]; rfl
set_option maxHeartbeats 4000000 in
theorem ValidBells_calls (A : Option Addr) (n c : Nat) (f : Nat → BellV) (w : World) (h : BellRow w A n f) (hf : ∀ i, i < n → Fine (f i)) (hn : n ≤ maxLen) :
    Calls Tryz.prog 21 #[.slice A n c] w fun e w' => e = .returned (.bool (bellsOk f n && decide ((n : Int) ≤ 24))) ∧ Below w.heap.size w w' := by
  unfold maxLen at hn
  generalize hres : (bellsOk f n && decide ((n : Int) ≤ 24)) = R
  have HRES := Lib.hid hres
  have H := Lib.hid h
  have HF := Lib.hid hf
  clear h hf hres
  go_enter Tryz.func21, Tryz.ntmps21
  go_wp2
  go_loopw [7] (fun i wr => ∃ k : Nat, k ≤ n ∧ i = .int .i64 k ∧ Hid (bellsOk f k = true) ∧ Below w.heap.size w wr) (fun i _ => n - (intOf i).toNat)
  case atStart => exact ⟨0, by omega, rfl, rfl, Below.refl _ _⟩
  case round =>
    obtain ⟨k, hk, rfl, hgood, hbr⟩ := hrel
    by_cases hlt : k < n
    · obtain ⟨fid, fss, fn⟩ := HF.out k hlt
      have FSS := Lib.hid fss
      clear fss
      have fss := FSS.out
      obtain ⟨b, o, rfl, hrow⟩ := H.out (by omega)
      obtain ⟨AK, CK, c0, c1, c2, c3, c4, c5⟩ := (hrow k hlt).keep hbr
      have HR := Lib.hid hrow
      clear hrow
      cases q1 : bellV (f k)
      · have HK : Hid (goodAt (fun i => bellV (f i)) (fun i => (f i).id) k = false) := Lib.hid (by simp [goodAt, q1])
        have q2 : bellB (f k).id (f k).no (f k).ma (f k).fe (f k).n (f k).ss (f k).ms = false := q1
        go_wp2_with fail
        refine wp_gen (fun W0 hW0 => ?_)
        have s0_ : Below w.heap.size w W0 := by rw [hW0]; exact hbr.alloc hbr.size _
        have s1_ : ShareRow W0 AK (f k).n (f k).ss (f k).ms := by rw [hW0]; exact c5.keep ((Below.refl _ _).alloc (Nat.le_refl _) _)
        have s2_ : W0.cell? ⟨wr.heap.size, 0, none⟩ = some (.string (f k).id) := by simp [hW0]
        have s3_ : W0.cell? ⟨wr.heap.size, 1, none⟩ = some (.int .i64 (f k).no) := by simp [hW0]
        have s4_ : W0.cell? ⟨wr.heap.size, 2, none⟩ = some (.int .i64 (f k).ma) := by simp [hW0]
        have s5_ : W0.cell? ⟨wr.heap.size, 3, none⟩ = some (.int .i64 (f k).fe) := by simp [hW0]
        have s6_ : W0.cell? ⟨wr.heap.size, 4, none⟩ = some (.slice AK (f k).n CK) := by simp [hW0]
        skip
        clear hW0
        refine wp_region_held_drew (S := fun w' => Below w.heap.size w w' ∧ ShareRow w' AK (f k).n (f k).ss (f k).ms ∧ w'.cell? ⟨wr.heap.size, 0, none⟩ = some (.string (f k).id) ∧ w'.cell? ⟨wr.heap.size, 1, none⟩ = some (.int .i64 (f k).no) ∧ w'.cell? ⟨wr.heap.size, 2, none⟩ = some (.int .i64 (f k).ma) ∧ w'.cell? ⟨wr.heap.size, 3, none⟩ = some (.int .i64 (f k).fe) ∧ w'.cell? ⟨wr.heap.size, 4, none⟩ = some (.slice AK (f k).n CK)) (by kernel_rfl) ?_ (fun hHeld => ?_)
        · exact ⟨s0_.drew, s1_, s2_, s3_, s4_, s5_, s6_⟩
        clear s0_ s1_ s2_ s3_ s4_ s5_ s6_
        refine take_yes (i := 0) (d := 12) (v := ?_) _ rfl rfl (by kernel_rfl) (by kernel_rfl) (by kernel_rfl) (fun _ _ _ _ h => h) (by rfl) ?_ (by assumption) ?_
        rotate_left 1
        · ((intro w hSw; (try dsimp only at hSw); go_simp) <;> (try with_reducible rfl))
        (try simp only [Act.put, List.setIfInBounds_toArray, List.set_cons_zero, List.set_cons_succ])
        (refine wpAnyH_ready (rs := [1]) (by kernel_rfl) (by simp) ?_; refine AllReadyH.cons rfl (fun K hK => ?_) AllReadyH.nil; go_simp; go_at_call 22; refine (ValidBell_calls _ _ _ _ _ _ _ _ _ _ fid hHeld.2.1 fss fn).mono ?_; simp only [q2]; rintro e wd ⟨rfl, hb⟩; refine hK.out _ _ (by obtain ⟨x0_, x1_, x2_, x3_, x4_, x5_, x6_⟩ := hHeld; exact ⟨x0_.trans (hb.mono x0_.size), x1_.keep hb, cell_keep hb x2_, cell_keep hb x3_, cell_keep hb x4_, cell_keep hb x5_, cell_keep hb x6_⟩) (fun hHeld2 => ?_); clear hK K hHeld hb; have hHeld := hHeld2; clear hHeld2; (try simp only [Act.put, List.setIfInBounds_toArray, List.set_cons_zero, List.set_cons_succ]))
        refine take_yes (i := 2) (d := 14) (v := ?_) _ rfl rfl (by kernel_rfl) (by kernel_rfl) (by kernel_rfl) (fun _ _ _ _ h => h) (by rfl) ?_ (by assumption) ?_
        rotate_left 1
        · ((intro w hSw; (try dsimp only at hSw); go_simp) <;> (try with_reducible rfl))
        (try simp only [Act.put, List.setIfInBounds_toArray, List.set_cons_zero, List.set_cons_succ])
        refine take_yes (i := 3) (d := 15) (v := ?_) _ rfl rfl (by kernel_rfl) (by kernel_rfl) (by kernel_rfl) (fun _ _ _ _ h => h) (by rfl) ?_ (by assumption) ?_
        rotate_left 1
        · ((intro w hSw; (try dsimp only at hSw); go_simp) <;> (try with_reducible rfl))
        (try simp only [Act.put, List.setIfInBounds_toArray, List.set_cons_zero, List.set_cons_succ])
        (refine take_no (i := 4) (d := 16) _ rfl rfl (by kernel_rfl) (by kernel_rfl) (by kernel_rfl) (fun _ _ _ _ h => h) (by rfl) (by assumption) ?_; (try simp only [Act.put, List.setIfInBounds_toArray, List.set_cons_zero, List.set_cons_succ]))
        (refine take_no (i := 5) (d := 17) _ rfl rfl (by kernel_rfl) (by kernel_rfl) (by kernel_rfl) (fun _ _ _ _ h => h) (by rfl) (by assumption) ?_; (try simp only [Act.put, List.setIfInBounds_toArray, List.set_cons_zero, List.set_cons_succ]))
        (refine take_no (i := 6) (d := 18) _ rfl rfl (by kernel_rfl) (by kernel_rfl) (by kernel_rfl) (fun _ _ _ _ h => h) (by rfl) (by assumption) ?_; (try simp only [Act.put, List.setIfInBounds_toArray, List.set_cons_zero, List.set_cons_succ]))
        (refine take_no (i := 7) (d := 19) _ rfl rfl (by kernel_rfl) (by kernel_rfl) (by kernel_rfl) (fun _ _ _ _ h => h) (by rfl) (by assumption) ?_; (try simp only [Act.put, List.setIfInBounds_toArray, List.set_cons_zero, List.set_cons_succ]))
        (refine take_no (i := 8) (d := 20) _ rfl rfl (by kernel_rfl) (by kernel_rfl) (by kernel_rfl) (fun _ _ _ _ h => h) (by rfl) (by assumption) ?_; (try simp only [Act.put, List.setIfInBounds_toArray, List.set_cons_zero, List.set_cons_succ]))
        (refine take_no (i := 9) (d := 21) _ rfl rfl (by kernel_rfl) (by kernel_rfl) (by kernel_rfl) (fun _ _ _ _ h => h) (by rfl) (by assumption) ?_; (try simp only [Act.put, List.setIfInBounds_toArray, List.set_cons_zero, List.set_cons_succ]))
        (refine take_no (i := 10) (d := 22) _ rfl rfl (by kernel_rfl) (by kernel_rfl) (by kernel_rfl) (fun _ _ _ _ h => h) (by rfl) (by assumption) ?_; (try simp only [Act.put, List.setIfInBounds_toArray, List.set_cons_zero, List.set_cons_succ]))
        (refine take_no (i := 11) (d := 23) _ rfl rfl (by kernel_rfl) (by kernel_rfl) (by kernel_rfl) (fun _ _ _ _ h => h) (by rfl) (by assumption) ?_; (try simp only [Act.put, List.setIfInBounds_toArray, List.set_cons_zero, List.set_cons_succ]))
        (refine take_no (i := 12) (d := 24) _ rfl rfl (by kernel_rfl) (by kernel_rfl) (by kernel_rfl) (fun _ _ _ _ h => h) (by rfl) (by assumption) ?_; (try simp only [Act.put, List.setIfInBounds_toArray, List.set_cons_zero, List.set_cons_succ]))
        (refine take_no (i := 13) (d := 25) _ rfl rfl (by kernel_rfl) (by kernel_rfl) (by kernel_rfl) (fun _ _ _ _ h => h) (by rfl) (by assumption) ?_; (try simp only [Act.put, List.setIfInBounds_toArray, List.set_cons_zero, List.set_cons_succ]))
        (refine take_no (i := 14) (d := 26) _ rfl rfl (by kernel_rfl) (by kernel_rfl) (by kernel_rfl) (fun _ _ _ _ h => h) (by rfl) (by assumption) ?_; (try simp only [Act.put, List.setIfInBounds_toArray, List.set_cons_zero, List.set_cons_succ]))
        (refine take_no (i := 15) (d := 27) _ rfl rfl (by kernel_rfl) (by kernel_rfl) (by kernel_rfl) (fun _ _ _ _ h => h) (by rfl) (by assumption) ?_; (try simp only [Act.put, List.setIfInBounds_toArray, List.set_cons_zero, List.set_cons_succ]))
        (refine take_no (i := 16) (d := 28) _ rfl rfl (by kernel_rfl) (by kernel_rfl) (by kernel_rfl) (fun _ _ _ _ h => h) (by rfl) (by assumption) ?_; (try simp only [Act.put, List.setIfInBounds_toArray, List.set_cons_zero, List.set_cons_succ]))
        refine take_yes (i := 17) (d := 29) (v := ?_) _ rfl rfl (by kernel_rfl) (by kernel_rfl) (by kernel_rfl) (fun _ _ _ _ h => h) (by rfl) ?_ (by assumption) ?_
        rotate_left 1
        · ((intro w hSw; (try dsimp only at hSw); go_simp) <;> (try with_reducible rfl))
        (try simp only [Act.put, List.setIfInBounds_toArray, List.set_cons_zero, List.set_cons_succ])
        refine wpAnyH_done (by kernel_rfl) ?_ _
        obtain ⟨z0, z1, z2, z3, z4, z5, z6⟩ := hHeld
        go_wp2
        go_ret
        exact ⟨ret_bool (by rw [← HRES.out, bellsOk_no hlt HK.out]), z0⟩
      · have q2 : bellB (f k).id (f k).no (f k).ma (f k).fe (f k).n (f k).ss (f k).ms = true := q1
        rcases Nat.eq_zero_or_pos k with hz | hz
        · have hd1 : decide ((0 : Int) < (k : Int)) = false := decide_eq_false (by omega)
          have hd2 : decide (0 < k) = false := decide_eq_false (by omega)
          have HK : Hid (goodAt (fun i => bellV (f i)) (fun i => (f i).id) k = true) := Lib.hid (by subst hz; simp [goodAt, q1])
          clear hz
          go_wp2_with fail
          refine wp_gen (fun W0 hW0 => ?_)
          have s0_ : Below w.heap.size w W0 := by rw [hW0]; exact hbr.alloc hbr.size _
          have s1_ : ShareRow W0 AK (f k).n (f k).ss (f k).ms := by rw [hW0]; exact c5.keep ((Below.refl _ _).alloc (Nat.le_refl _) _)
          have s2_ : W0.cell? ⟨wr.heap.size, 0, none⟩ = some (.string (f k).id) := by simp [hW0]
          have s3_ : W0.cell? ⟨wr.heap.size, 1, none⟩ = some (.int .i64 (f k).no) := by simp [hW0]
          have s4_ : W0.cell? ⟨wr.heap.size, 2, none⟩ = some (.int .i64 (f k).ma) := by simp [hW0]
          have s5_ : W0.cell? ⟨wr.heap.size, 3, none⟩ = some (.int .i64 (f k).fe) := by simp [hW0]
          have s6_ : W0.cell? ⟨wr.heap.size, 4, none⟩ = some (.slice AK (f k).n CK) := by simp [hW0]
          skip
          clear hW0
          refine wp_region_held_drew (S := fun w' => Below w.heap.size w w' ∧ ShareRow w' AK (f k).n (f k).ss (f k).ms ∧ w'.cell? ⟨wr.heap.size, 0, none⟩ = some (.string (f k).id) ∧ w'.cell? ⟨wr.heap.size, 1, none⟩ = some (.int .i64 (f k).no) ∧ w'.cell? ⟨wr.heap.size, 2, none⟩ = some (.int .i64 (f k).ma) ∧ w'.cell? ⟨wr.heap.size, 3, none⟩ = some (.int .i64 (f k).fe) ∧ w'.cell? ⟨wr.heap.size, 4, none⟩ = some (.slice AK (f k).n CK)) (by kernel_rfl) ?_ (fun hHeld => ?_)
          · exact ⟨s0_.drew, s1_, s2_, s3_, s4_, s5_, s6_⟩
          clear s0_ s1_ s2_ s3_ s4_ s5_ s6_
          refine take_yes (i := 0) (d := 12) (v := ?_) _ rfl rfl (by kernel_rfl) (by kernel_rfl) (by kernel_rfl) (fun _ _ _ _ h => h) (by rfl) ?_ (by assumption) ?_
          rotate_left 1
          · ((intro w hSw; (try dsimp only at hSw); go_simp) <;> (try with_reducible rfl))
          (try simp only [Act.put, List.setIfInBounds_toArray, List.set_cons_zero, List.set_cons_succ])
          (refine wpAnyH_ready (rs := [1]) (by kernel_rfl) (by simp) ?_; refine AllReadyH.cons rfl (fun K hK => ?_) AllReadyH.nil; go_simp; go_at_call 22; refine (ValidBell_calls _ _ _ _ _ _ _ _ _ _ fid hHeld.2.1 fss fn).mono ?_; simp only [q2]; rintro e wd ⟨rfl, hb⟩; refine hK.out _ _ (by obtain ⟨x0_, x1_, x2_, x3_, x4_, x5_, x6_⟩ := hHeld; exact ⟨x0_.trans (hb.mono x0_.size), x1_.keep hb, cell_keep hb x2_, cell_keep hb x3_, cell_keep hb x4_, cell_keep hb x5_, cell_keep hb x6_⟩) (fun hHeld2 => ?_); clear hK K hHeld hb; have hHeld := hHeld2; clear hHeld2; (try simp only [Act.put, List.setIfInBounds_toArray, List.set_cons_zero, List.set_cons_succ]))
          refine take_yes (i := 2) (d := 14) (v := ?_) _ rfl rfl (by kernel_rfl) (by kernel_rfl) (by kernel_rfl) (fun _ _ _ _ h => h) (by rfl) ?_ (by assumption) ?_
          rotate_left 1
          · ((intro w hSw; (try dsimp only at hSw); go_simp) <;> (try with_reducible rfl))
          (try simp only [Act.put, List.setIfInBounds_toArray, List.set_cons_zero, List.set_cons_succ])
          refine take_yes (i := 3) (d := 15) (v := ?_) _ rfl rfl (by kernel_rfl) (by kernel_rfl) (by kernel_rfl) (fun _ _ _ _ h => h) (by rfl) ?_ (by assumption) ?_
          rotate_left 1
          · ((intro w hSw; (try dsimp only at hSw); go_simp) <;> (try with_reducible rfl))
          (try simp only [Act.put, List.setIfInBounds_toArray, List.set_cons_zero, List.set_cons_succ])
          refine take_yes (i := 4) (d := 16) (v := ?_) _ rfl rfl (by kernel_rfl) (by kernel_rfl) (by kernel_rfl) (fun _ _ _ _ h => h) (by rfl) ?_ (by assumption) ?_
          rotate_left 1
          · ((intro w hSw; (try dsimp only at hSw); go_simp) <;> (try with_reducible rfl))
          (try simp only [Act.put, List.setIfInBounds_toArray, List.set_cons_zero, List.set_cons_succ])
          refine take_yes (i := 5) (d := 17) (v := ?_) _ rfl rfl (by kernel_rfl) (by kernel_rfl) (by kernel_rfl) (fun _ _ _ _ h => h) (by rfl) ?_ (by assumption) ?_
          rotate_left 1
          · ((intro w hSw; (try dsimp only at hSw); go_simp) <;> (try with_reducible rfl))
          (try simp only [Act.put, List.setIfInBounds_toArray, List.set_cons_zero, List.set_cons_succ])
          refine take_yes (i := 6) (d := 18) (v := ?_) _ rfl rfl (by kernel_rfl) (by kernel_rfl) (by kernel_rfl) (fun _ _ _ _ h => h) (by rfl) ?_ (by assumption) ?_
          rotate_left 1
          · ((intro w hSw; (try dsimp only at hSw); go_simp) <;> (try with_reducible rfl))
          (try simp only [Act.put, List.setIfInBounds_toArray, List.set_cons_zero, List.set_cons_succ])
          (refine take_no (i := 7) (d := 19) _ rfl rfl (by kernel_rfl) (by kernel_rfl) (by kernel_rfl) (fun _ _ _ _ h => h) (by rfl) (by assumption) ?_; (try simp only [Act.put, List.setIfInBounds_toArray, List.set_cons_zero, List.set_cons_succ]))
          (refine take_no (i := 8) (d := 20) _ rfl rfl (by kernel_rfl) (by kernel_rfl) (by kernel_rfl) (fun _ _ _ _ h => h) (by rfl) (by assumption) ?_; (try simp only [Act.put, List.setIfInBounds_toArray, List.set_cons_zero, List.set_cons_succ]))
          (refine take_no (i := 9) (d := 21) _ rfl rfl (by kernel_rfl) (by kernel_rfl) (by kernel_rfl) (fun _ _ _ _ h => h) (by rfl) (by assumption) ?_; (try simp only [Act.put, List.setIfInBounds_toArray, List.set_cons_zero, List.set_cons_succ]))
          (refine take_no (i := 10) (d := 22) _ rfl rfl (by kernel_rfl) (by kernel_rfl) (by kernel_rfl) (fun _ _ _ _ h => h) (by rfl) (by assumption) ?_; (try simp only [Act.put, List.setIfInBounds_toArray, List.set_cons_zero, List.set_cons_succ]))
          (refine take_no (i := 11) (d := 23) _ rfl rfl (by kernel_rfl) (by kernel_rfl) (by kernel_rfl) (fun _ _ _ _ h => h) (by rfl) (by assumption) ?_; (try simp only [Act.put, List.setIfInBounds_toArray, List.set_cons_zero, List.set_cons_succ]))
          (refine take_no (i := 12) (d := 24) _ rfl rfl (by kernel_rfl) (by kernel_rfl) (by kernel_rfl) (fun _ _ _ _ h => h) (by rfl) (by assumption) ?_; (try simp only [Act.put, List.setIfInBounds_toArray, List.set_cons_zero, List.set_cons_succ]))
          (refine take_no (i := 13) (d := 25) _ rfl rfl (by kernel_rfl) (by kernel_rfl) (by kernel_rfl) (fun _ _ _ _ h => h) (by rfl) (by assumption) ?_; (try simp only [Act.put, List.setIfInBounds_toArray, List.set_cons_zero, List.set_cons_succ]))
          (refine take_no (i := 14) (d := 26) _ rfl rfl (by kernel_rfl) (by kernel_rfl) (by kernel_rfl) (fun _ _ _ _ h => h) (by rfl) (by assumption) ?_; (try simp only [Act.put, List.setIfInBounds_toArray, List.set_cons_zero, List.set_cons_succ]))
          (refine take_no (i := 15) (d := 27) _ rfl rfl (by kernel_rfl) (by kernel_rfl) (by kernel_rfl) (fun _ _ _ _ h => h) (by rfl) (by assumption) ?_; (try simp only [Act.put, List.setIfInBounds_toArray, List.set_cons_zero, List.set_cons_succ]))
          refine take_yes (i := 16) (d := 28) (v := ?_) _ rfl rfl (by kernel_rfl) (by kernel_rfl) (by kernel_rfl) (fun _ _ _ _ h => h) (by rfl) ?_ (by assumption) ?_
          rotate_left 1
          · ((intro w hSw; (try dsimp only at hSw); go_simp) <;> (try with_reducible rfl))
          (try simp only [Act.put, List.setIfInBounds_toArray, List.set_cons_zero, List.set_cons_succ])
          refine take_yes (i := 17) (d := 29) (v := ?_) _ rfl rfl (by kernel_rfl) (by kernel_rfl) (by kernel_rfl) (fun _ _ _ _ h => h) (by rfl) ?_ (by assumption) ?_
          rotate_left 1
          · ((intro w hSw; (try dsimp only at hSw); go_simp) <;> (try with_reducible rfl))
          (try simp only [Act.put, List.setIfInBounds_toArray, List.set_cons_zero, List.set_cons_succ])
          refine wpAnyH_done (by kernel_rfl) ?_ _
          obtain ⟨z0, z1, z2, z3, z4, z5, z6⟩ := hHeld
          go_wp2
          go_roundw
          case rel => exact ⟨k + 1, by omega, by go_num, Lib.hid (bellsOk_up hgood.out HK.out), z0⟩
          case measure => simp [intOf]; omega
        · obtain ⟨j, hj⟩ : ∃ j, k = j + 1 := ⟨k - 1, by omega⟩
          obtain ⟨-, -, pr, -⟩ := (HR.out j (by omega)).keep hbr
          have hd1 : decide ((0 : Int) < (k : Int)) = true := decide_eq_true (by omega)
          have hd2 : decide (0 < k) = true := decide_eq_true (by omega)
          have hw : IntKind.i64.wrap ((k : Int) - 1) = (j : Int) := (IntWalk.i64_in _ ⟨by omega, by omega⟩).trans (by omega)
          have hjn : j < n := by omega
          have hg : goodAt (fun i => bellV (f i)) (fun i => (f i).id) k = Op.bytesLess (f j).id.toList (f k).id.toList := by subst hj; simp [goodAt, q1]
          clear hj hz
          have hle := less_total (f k).id.toList (f j).id.toList
          cases q3 : (Op.bytesLess (f k).id.toList (f j).id.toList || (f k).id.toList == (f j).id.toList)
          · have HK := Lib.hid (show goodAt (fun i => bellV (f i)) (fun i => (f i).id) k = true by rw [q3] at hle; rw [hg]; simpa using hle)
            clear hg hle
            go_wp2_with fail
            refine wp_gen (fun W0 hW0 => ?_)
            have s0_ : Below w.heap.size w W0 := by rw [hW0]; exact hbr.alloc hbr.size _
            have s1_ : ShareRow W0 AK (f k).n (f k).ss (f k).ms := by rw [hW0]; exact c5.keep ((Below.refl _ _).alloc (Nat.le_refl _) _)
            have s2_ : W0.cell? ⟨wr.heap.size, 0, none⟩ = some (.string (f k).id) := by simp [hW0]
            have s3_ : W0.cell? ⟨wr.heap.size, 1, none⟩ = some (.int .i64 (f k).no) := by simp [hW0]
            have s4_ : W0.cell? ⟨wr.heap.size, 2, none⟩ = some (.int .i64 (f k).ma) := by simp [hW0]
            have s5_ : W0.cell? ⟨wr.heap.size, 3, none⟩ = some (.int .i64 (f k).fe) := by simp [hW0]
            have s6_ : W0.cell? ⟨wr.heap.size, 4, none⟩ = some (.slice AK (f k).n CK) := by simp [hW0]
            have s7_ : W0.cell? ⟨b, o + j * 5, none⟩ = some (.string (f j).id) := by rw [hW0]; exact cell_keep ((Below.refl _ _).alloc (Nat.le_refl _) _) pr
            clear hW0
            refine wp_region_held_drew (S := fun w' => Below w.heap.size w w' ∧ ShareRow w' AK (f k).n (f k).ss (f k).ms ∧ w'.cell? ⟨wr.heap.size, 0, none⟩ = some (.string (f k).id) ∧ w'.cell? ⟨wr.heap.size, 1, none⟩ = some (.int .i64 (f k).no) ∧ w'.cell? ⟨wr.heap.size, 2, none⟩ = some (.int .i64 (f k).ma) ∧ w'.cell? ⟨wr.heap.size, 3, none⟩ = some (.int .i64 (f k).fe) ∧ w'.cell? ⟨wr.heap.size, 4, none⟩ = some (.slice AK (f k).n CK) ∧ w'.cell? ⟨b, o + j * 5, none⟩ = some (.string (f j).id)) (by kernel_rfl) ?_ (fun hHeld => ?_)
            · exact ⟨s0_.drew, s1_, s2_, s3_, s4_, s5_, s6_, s7_⟩
            clear s0_ s1_ s2_ s3_ s4_ s5_ s6_ s7_
            refine take_yes (i := 0) (d := 12) (v := ?_) _ rfl rfl (by kernel_rfl) (by kernel_rfl) (by kernel_rfl) (fun _ _ _ _ h => h) (by rfl) ?_ (by assumption) ?_
            rotate_left 1
            · ((intro w hSw; (try dsimp only at hSw); go_simp) <;> (try with_reducible rfl))
            (try simp only [Act.put, List.setIfInBounds_toArray, List.set_cons_zero, List.set_cons_succ])
            (refine wpAnyH_ready (rs := [1]) (by kernel_rfl) (by simp) ?_; refine AllReadyH.cons rfl (fun K hK => ?_) AllReadyH.nil; go_simp; go_at_call 22; refine (ValidBell_calls _ _ _ _ _ _ _ _ _ _ fid hHeld.2.1 fss fn).mono ?_; simp only [q2]; rintro e wd ⟨rfl, hb⟩; refine hK.out _ _ (by obtain ⟨x0_, x1_, x2_, x3_, x4_, x5_, x6_, x7_⟩ := hHeld; exact ⟨x0_.trans (hb.mono x0_.size), x1_.keep hb, cell_keep hb x2_, cell_keep hb x3_, cell_keep hb x4_, cell_keep hb x5_, cell_keep hb x6_, cell_keep hb x7_⟩) (fun hHeld2 => ?_); clear hK K hHeld hb; have hHeld := hHeld2; clear hHeld2; (try simp only [Act.put, List.setIfInBounds_toArray, List.set_cons_zero, List.set_cons_succ]))
            refine take_yes (i := 2) (d := 14) (v := ?_) _ rfl rfl (by kernel_rfl) (by kernel_rfl) (by kernel_rfl) (fun _ _ _ _ h => h) (by rfl) ?_ (by assumption) ?_
            rotate_left 1
            · ((intro w hSw; (try dsimp only at hSw); go_simp) <;> (try with_reducible rfl))
            (try simp only [Act.put, List.setIfInBounds_toArray, List.set_cons_zero, List.set_cons_succ])
            refine take_yes (i := 3) (d := 15) (v := ?_) _ rfl rfl (by kernel_rfl) (by kernel_rfl) (by kernel_rfl) (fun _ _ _ _ h => h) (by rfl) ?_ (by assumption) ?_
            rotate_left 1
            · ((intro w hSw; (try dsimp only at hSw); go_simp) <;> (try with_reducible rfl))
            (try simp only [Act.put, List.setIfInBounds_toArray, List.set_cons_zero, List.set_cons_succ])
            refine take_yes (i := 4) (d := 16) (v := ?_) _ rfl rfl (by kernel_rfl) (by kernel_rfl) (by kernel_rfl) (fun _ _ _ _ h => h) (by rfl) ?_ (by assumption) ?_
            rotate_left 1
            · ((intro w hSw; (try dsimp only at hSw); go_simp) <;> (try with_reducible rfl))
            (try simp only [Act.put, List.setIfInBounds_toArray, List.set_cons_zero, List.set_cons_succ])
            refine take_yes (i := 5) (d := 17) (v := ?_) _ rfl rfl (by kernel_rfl) (by kernel_rfl) (by kernel_rfl) (fun _ _ _ _ h => h) (by rfl) ?_ (by assumption) ?_
            rotate_left 1
            · ((intro w hSw; (try dsimp only at hSw); go_simp) <;> (try with_reducible rfl))
            (try simp only [Act.put, List.setIfInBounds_toArray, List.set_cons_zero, List.set_cons_succ])
            refine take_yes (i := 6) (d := 18) (v := ?_) _ rfl rfl (by kernel_rfl) (by kernel_rfl) (by kernel_rfl) (fun _ _ _ _ h => h) (by rfl) ?_ (by assumption) ?_
            rotate_left 1
            · ((intro w hSw; (try dsimp only at hSw); go_simp) <;> (try with_reducible rfl))
            (try simp only [Act.put, List.setIfInBounds_toArray, List.set_cons_zero, List.set_cons_succ])
            refine take_yes (i := 7) (d := 19) (v := ?_) _ rfl rfl (by kernel_rfl) (by kernel_rfl) (by kernel_rfl) (fun _ _ _ _ h => h) (by rfl) ?_ (by assumption) ?_
            rotate_left 1
            · ((intro w hSw; (try dsimp only at hSw); go_simp) <;> (try with_reducible rfl))
            (try simp only [Act.put, List.setIfInBounds_toArray, List.set_cons_zero, List.set_cons_succ])
            refine take_yes (i := 8) (d := 20) (v := ?_) _ rfl rfl (by kernel_rfl) (by kernel_rfl) (by kernel_rfl) (fun _ _ _ _ h => h) (by rfl) ?_ (by assumption) ?_
            rotate_left 1
            · ((intro w hSw; (try dsimp only at hSw); go_simp) <;> (try with_reducible rfl))
            (try simp only [Act.put, List.setIfInBounds_toArray, List.set_cons_zero, List.set_cons_succ])
            refine take_yes (i := 9) (d := 21) (v := ?_) _ rfl rfl (by kernel_rfl) (by kernel_rfl) (by kernel_rfl) (fun _ _ _ _ h => h) (by rfl) ?_ (by assumption) ?_
            rotate_left 1
            · ((intro w hSw; (try dsimp only at hSw); go_simp) <;> (try with_reducible rfl))
            (try simp only [Act.put, List.setIfInBounds_toArray, List.set_cons_zero, List.set_cons_succ])
            refine take_yes (i := 10) (d := 22) (v := ?_) _ rfl rfl (by kernel_rfl) (by kernel_rfl) (by kernel_rfl) (fun _ _ _ _ h => h) (by rfl) ?_ (by assumption) ?_
            rotate_left 1
            · ((intro w hSw; (try dsimp only at hSw); go_simp) <;> (try with_reducible rfl))
            (try simp only [Act.put, List.setIfInBounds_toArray, List.set_cons_zero, List.set_cons_succ])
            refine take_yes (i := 11) (d := 23) (v := ?_) _ rfl rfl (by kernel_rfl) (by kernel_rfl) (by kernel_rfl) (fun _ _ _ _ h => h) (by rfl) ?_ (by assumption) ?_
            rotate_left 1
            · ((intro w hSw; (try dsimp only at hSw); go_simp) <;> (try with_reducible rfl))
            (try simp only [Act.put, List.setIfInBounds_toArray, List.set_cons_zero, List.set_cons_succ])
            refine take_yes (i := 12) (d := 24) (v := ?_) _ rfl rfl (by kernel_rfl) (by kernel_rfl) (by kernel_rfl) (fun _ _ _ _ h => h) (by rfl) ?_ (by assumption) ?_
            rotate_left 1
            · ((intro w hSw; (try dsimp only at hSw); go_simp) <;> (try with_reducible rfl))
            (try simp only [Act.put, List.setIfInBounds_toArray, List.set_cons_zero, List.set_cons_succ])
            refine take_yes (i := 13) (d := 25) (v := ?_) _ rfl rfl (by kernel_rfl) (by kernel_rfl) (by kernel_rfl) (fun _ _ _ _ h => h) (by rfl) ?_ (by assumption) ?_
            rotate_left 1
            · ((intro w hSw; (try dsimp only at hSw); go_simp) <;> (try with_reducible rfl))
            (try simp only [Act.put, List.setIfInBounds_toArray, List.set_cons_zero, List.set_cons_succ])
            refine take_yes (i := 14) (d := 26) (v := ?_) _ rfl rfl (by kernel_rfl) (by kernel_rfl) (by kernel_rfl) (fun _ _ _ _ h => h) (by rfl) ?_ (by assumption) ?_
            rotate_left 1
            · ((intro w hSw; (try dsimp only at hSw); go_simp) <;> (try with_reducible rfl))
            (try simp only [Act.put, List.setIfInBounds_toArray, List.set_cons_zero, List.set_cons_succ])
            refine take_yes (i := 15) (d := 27) (v := ?_) _ rfl rfl (by kernel_rfl) (by kernel_rfl) (by kernel_rfl) (fun _ _ _ _ h => h) (by rfl) ?_ (by assumption) ?_
            rotate_left 1
            · ((intro w hSw; (try dsimp only at hSw); go_simp) <;> (try with_reducible rfl))
            (try simp only [Act.put, List.setIfInBounds_toArray, List.set_cons_zero, List.set_cons_succ])
            refine take_yes (i := 16) (d := 28) (v := ?_) _ rfl rfl (by kernel_rfl) (by kernel_rfl) (by kernel_rfl) (fun _ _ _ _ h => h) (by rfl) ?_ (by assumption) ?_
            rotate_left 1
            · ((intro w hSw; (try dsimp only at hSw); go_simp) <;> (try with_reducible rfl))
            (try simp only [Act.put, List.setIfInBounds_toArray, List.set_cons_zero, List.set_cons_succ])
            refine take_yes (i := 17) (d := 29) (v := ?_) _ rfl rfl (by kernel_rfl) (by kernel_rfl) (by kernel_rfl) (fun _ _ _ _ h => h) (by rfl) ?_ (by assumption) ?_
            rotate_left 1
            · ((intro w hSw; (try dsimp only at hSw); go_simp) <;> (try with_reducible rfl))
            (try simp only [Act.put, List.setIfInBounds_toArray, List.set_cons_zero, List.set_cons_succ])
            refine wpAnyH_done (by kernel_rfl) ?_ _
            obtain ⟨z0, z1, z2, z3, z4, z5, z6, z7⟩ := hHeld
            go_wp2
            go_roundw
            case rel => exact ⟨k + 1, by omega, by go_num, Lib.hid (bellsOk_up hgood.out HK.out), z0⟩
            case measure => simp [intOf]; omega
          · have HK := Lib.hid (show goodAt (fun i => bellV (f i)) (fun i => (f i).id) k = false by rw [q3] at hle; rw [hg]; simpa using hle)
            clear hg hle
            go_wp2_with fail
            refine wp_gen (fun W0 hW0 => ?_)
            have s0_ : Below w.heap.size w W0 := by rw [hW0]; exact hbr.alloc hbr.size _
            have s1_ : ShareRow W0 AK (f k).n (f k).ss (f k).ms := by rw [hW0]; exact c5.keep ((Below.refl _ _).alloc (Nat.le_refl _) _)
            have s2_ : W0.cell? ⟨wr.heap.size, 0, none⟩ = some (.string (f k).id) := by simp [hW0]
            have s3_ : W0.cell? ⟨wr.heap.size, 1, none⟩ = some (.int .i64 (f k).no) := by simp [hW0]
            have s4_ : W0.cell? ⟨wr.heap.size, 2, none⟩ = some (.int .i64 (f k).ma) := by simp [hW0]
            have s5_ : W0.cell? ⟨wr.heap.size, 3, none⟩ = some (.int .i64 (f k).fe) := by simp [hW0]
            have s6_ : W0.cell? ⟨wr.heap.size, 4, none⟩ = some (.slice AK (f k).n CK) := by simp [hW0]
            have s7_ : W0.cell? ⟨b, o + j * 5, none⟩ = some (.string (f j).id) := by rw [hW0]; exact cell_keep ((Below.refl _ _).alloc (Nat.le_refl _) _) pr
            clear hW0
            refine wp_region_held_drew (S := fun w' => Below w.heap.size w w' ∧ ShareRow w' AK (f k).n (f k).ss (f k).ms ∧ w'.cell? ⟨wr.heap.size, 0, none⟩ = some (.string (f k).id) ∧ w'.cell? ⟨wr.heap.size, 1, none⟩ = some (.int .i64 (f k).no) ∧ w'.cell? ⟨wr.heap.size, 2, none⟩ = some (.int .i64 (f k).ma) ∧ w'.cell? ⟨wr.heap.size, 3, none⟩ = some (.int .i64 (f k).fe) ∧ w'.cell? ⟨wr.heap.size, 4, none⟩ = some (.slice AK (f k).n CK) ∧ w'.cell? ⟨b, o + j * 5, none⟩ = some (.string (f j).id)) (by kernel_rfl) ?_ (fun hHeld => ?_)
            · exact ⟨s0_.drew, s1_, s2_, s3_, s4_, s5_, s6_, s7_⟩
            clear s0_ s1_ s2_ s3_ s4_ s5_ s6_ s7_
            refine take_yes (i := 0) (d := 12) (v := ?_) _ rfl rfl (by kernel_rfl) (by kernel_rfl) (by kernel_rfl) (fun _ _ _ _ h => h) (by rfl) ?_ (by assumption) ?_
            rotate_left 1
            · ((intro w hSw; (try dsimp only at hSw); go_simp) <;> (try with_reducible rfl))
            (try simp only [Act.put, List.setIfInBounds_toArray, List.set_cons_zero, List.set_cons_succ])
            (refine wpAnyH_ready (rs := [1]) (by kernel_rfl) (by simp) ?_; refine AllReadyH.cons rfl (fun K hK => ?_) AllReadyH.nil; go_simp; go_at_call 22; refine (ValidBell_calls _ _ _ _ _ _ _ _ _ _ fid hHeld.2.1 fss fn).mono ?_; simp only [q2]; rintro e wd ⟨rfl, hb⟩; refine hK.out _ _ (by obtain ⟨x0_, x1_, x2_, x3_, x4_, x5_, x6_, x7_⟩ := hHeld; exact ⟨x0_.trans (hb.mono x0_.size), x1_.keep hb, cell_keep hb x2_, cell_keep hb x3_, cell_keep hb x4_, cell_keep hb x5_, cell_keep hb x6_, cell_keep hb x7_⟩) (fun hHeld2 => ?_); clear hK K hHeld hb; have hHeld := hHeld2; clear hHeld2; (try simp only [Act.put, List.setIfInBounds_toArray, List.set_cons_zero, List.set_cons_succ]))
            refine take_yes (i := 2) (d := 14) (v := ?_) _ rfl rfl (by kernel_rfl) (by kernel_rfl) (by kernel_rfl) (fun _ _ _ _ h => h) (by rfl) ?_ (by assumption) ?_
            rotate_left 1
            · ((intro w hSw; (try dsimp only at hSw); go_simp) <;> (try with_reducible rfl))
            (try simp only [Act.put, List.setIfInBounds_toArray, List.set_cons_zero, List.set_cons_succ])
            refine take_yes (i := 3) (d := 15) (v := ?_) _ rfl rfl (by kernel_rfl) (by kernel_rfl) (by kernel_rfl) (fun _ _ _ _ h => h) (by rfl) ?_ (by assumption) ?_
            rotate_left 1
            · ((intro w hSw; (try dsimp only at hSw); go_simp) <;> (try with_reducible rfl))
            (try simp only [Act.put, List.setIfInBounds_toArray, List.set_cons_zero, List.set_cons_succ])
            refine take_yes (i := 4) (d := 16) (v := ?_) _ rfl rfl (by kernel_rfl) (by kernel_rfl) (by kernel_rfl) (fun _ _ _ _ h => h) (by rfl) ?_ (by assumption) ?_
            rotate_left 1
            · ((intro w hSw; (try dsimp only at hSw); go_simp) <;> (try with_reducible rfl))
            (try simp only [Act.put, List.setIfInBounds_toArray, List.set_cons_zero, List.set_cons_succ])
            refine take_yes (i := 5) (d := 17) (v := ?_) _ rfl rfl (by kernel_rfl) (by kernel_rfl) (by kernel_rfl) (fun _ _ _ _ h => h) (by rfl) ?_ (by assumption) ?_
            rotate_left 1
            · ((intro w hSw; (try dsimp only at hSw); go_simp) <;> (try with_reducible rfl))
            (try simp only [Act.put, List.setIfInBounds_toArray, List.set_cons_zero, List.set_cons_succ])
            refine take_yes (i := 6) (d := 18) (v := ?_) _ rfl rfl (by kernel_rfl) (by kernel_rfl) (by kernel_rfl) (fun _ _ _ _ h => h) (by rfl) ?_ (by assumption) ?_
            rotate_left 1
            · ((intro w hSw; (try dsimp only at hSw); go_simp) <;> (try with_reducible rfl))
            (try simp only [Act.put, List.setIfInBounds_toArray, List.set_cons_zero, List.set_cons_succ])
            refine take_yes (i := 7) (d := 19) (v := ?_) _ rfl rfl (by kernel_rfl) (by kernel_rfl) (by kernel_rfl) (fun _ _ _ _ h => h) (by rfl) ?_ (by assumption) ?_
            rotate_left 1
            · ((intro w hSw; (try dsimp only at hSw); go_simp) <;> (try with_reducible rfl))
            (try simp only [Act.put, List.setIfInBounds_toArray, List.set_cons_zero, List.set_cons_succ])
            refine take_yes (i := 8) (d := 20) (v := ?_) _ rfl rfl (by kernel_rfl) (by kernel_rfl) (by kernel_rfl) (fun _ _ _ _ h => h) (by rfl) ?_ (by assumption) ?_
            rotate_left 1
            · ((intro w hSw; (try dsimp only at hSw); go_simp) <;> (try with_reducible rfl))
            (try simp only [Act.put, List.setIfInBounds_toArray, List.set_cons_zero, List.set_cons_succ])
            refine take_yes (i := 9) (d := 21) (v := ?_) _ rfl rfl (by kernel_rfl) (by kernel_rfl) (by kernel_rfl) (fun _ _ _ _ h => h) (by rfl) ?_ (by assumption) ?_
            rotate_left 1
            · ((intro w hSw; (try dsimp only at hSw); go_simp) <;> (try with_reducible rfl))
            (try simp only [Act.put, List.setIfInBounds_toArray, List.set_cons_zero, List.set_cons_succ])
            refine take_yes (i := 10) (d := 22) (v := ?_) _ rfl rfl (by kernel_rfl) (by kernel_rfl) (by kernel_rfl) (fun _ _ _ _ h => h) (by rfl) ?_ (by assumption) ?_
            rotate_left 1
            · ((intro w hSw; (try dsimp only at hSw); go_simp) <;> (try with_reducible rfl))
            (try simp only [Act.put, List.setIfInBounds_toArray, List.set_cons_zero, List.set_cons_succ])
            refine take_yes (i := 11) (d := 23) (v := ?_) _ rfl rfl (by kernel_rfl) (by kernel_rfl) (by kernel_rfl) (fun _ _ _ _ h => h) (by rfl) ?_ (by assumption) ?_
            rotate_left 1
            · ((intro w hSw; (try dsimp only at hSw); go_simp) <;> (try with_reducible rfl))
            (try simp only [Act.put, List.setIfInBounds_toArray, List.set_cons_zero, List.set_cons_succ])
            refine take_yes (i := 12) (d := 24) (v := ?_) _ rfl rfl (by kernel_rfl) (by kernel_rfl) (by kernel_rfl) (fun _ _ _ _ h => h) (by rfl) ?_ (by assumption) ?_
            rotate_left 1
            · ((intro w hSw; (try dsimp only at hSw); go_simp) <;> (try with_reducible rfl))
            (try simp only [Act.put, List.setIfInBounds_toArray, List.set_cons_zero, List.set_cons_succ])
            refine take_yes (i := 13) (d := 25) (v := ?_) _ rfl rfl (by kernel_rfl) (by kernel_rfl) (by kernel_rfl) (fun _ _ _ _ h => h) (by rfl) ?_ (by assumption) ?_
            rotate_left 1
            · ((intro w hSw; (try dsimp only at hSw); go_simp) <;> (try with_reducible rfl))
            (try simp only [Act.put, List.setIfInBounds_toArray, List.set_cons_zero, List.set_cons_succ])
            refine take_yes (i := 14) (d := 26) (v := ?_) _ rfl rfl (by kernel_rfl) (by kernel_rfl) (by kernel_rfl) (fun _ _ _ _ h => h) (by rfl) ?_ (by assumption) ?_
            rotate_left 1
            · ((intro w hSw; (try dsimp only at hSw); go_simp) <;> (try with_reducible rfl))
            (try simp only [Act.put, List.setIfInBounds_toArray, List.set_cons_zero, List.set_cons_succ])
            refine take_yes (i := 15) (d := 27) (v := ?_) _ rfl rfl (by kernel_rfl) (by kernel_rfl) (by kernel_rfl) (fun _ _ _ _ h => h) (by rfl) ?_ (by assumption) ?_
            rotate_left 1
            · ((intro w hSw; (try dsimp only at hSw); go_simp) <;> (try with_reducible rfl))
            (try simp only [Act.put, List.setIfInBounds_toArray, List.set_cons_zero, List.set_cons_succ])
            refine take_yes (i := 16) (d := 28) (v := ?_) _ rfl rfl (by kernel_rfl) (by kernel_rfl) (by kernel_rfl) (fun _ _ _ _ h => h) (by rfl) ?_ (by assumption) ?_
            rotate_left 1
            · ((intro w hSw; (try dsimp only at hSw); go_simp) <;> (try with_reducible rfl))
            (try simp only [Act.put, List.setIfInBounds_toArray, List.set_cons_zero, List.set_cons_succ])
            refine take_yes (i := 17) (d := 29) (v := ?_) _ rfl rfl (by kernel_rfl) (by kernel_rfl) (by kernel_rfl) (fun _ _ _ _ h => h) (by rfl) ?_ (by assumption) ?_
            rotate_left 1
            · ((intro w hSw; (try dsimp only at hSw); go_simp) <;> (try with_reducible rfl))
            (try simp only [Act.put, List.setIfInBounds_toArray, List.set_cons_zero, List.set_cons_succ])
            refine wpAnyH_done (by kernel_rfl) ?_ _
            obtain ⟨z0, z1, z2, z3, z4, z5, z6, z7⟩ := hHeld
            go_wp2
            go_ret
            exact ⟨ret_bool (by rw [← HRES.out, bellsOk_no hlt HK.out]), z0⟩
    · obtain rfl : k = n := by omega
      by_cases hm : (k : Int) ≤ 24
      all_goals
        go_wp2
        go_ret
        exact ⟨ret_bool (by rw [← HRES.out, hgood.out]; simp [hm] <;> omega), hbr⟩
set_option maxHeartbeats 4000000 in
theorem sbells_calls (A : Option Addr) (n c : Nat) (f : Nat → BellV) (w : World) (h : BellRow w A n f) (hf : ∀ i, i < n → Fine (f i)) (hn : n ≤ maxLen) :
    Calls Tryz.prog 34 #[.slice A n c] w fun e w' => e = .returned (.bool (bellsOk f n && decide ((n : Int) ≤ 24))) ∧ ∃ m, w' = w.drewN m := by
  unfold maxLen at hn
  generalize hres : (bellsOk f n && decide ((n : Int) ≤ 24)) = R
  have HRES := Lib.hid hres
  have H := Lib.hid h
  have HF := Lib.hid hf
  clear h hf hres
  go_enter Tryz.func34, Tryz.ntmps34
  go_wp2
  go_loopw [3] (fun i wr => ∃ k : Nat, k ≤ n ∧ i = .int .i64 k ∧ Hid (bellsOk f k = true) ∧ Hid (∃ m, wr = w.drewN m)) (fun i _ => n - (intOf i).toNat)
  case atStart => exact ⟨0, by omega, rfl, rfl, Lib.hid ⟨0, rfl⟩⟩
  case round =>
    obtain ⟨k, hk, rfl, hgood, hwr⟩ := hrel
    by_cases hlt : k < n
    · obtain ⟨fid, fss, fn⟩ := HF.out k hlt
      obtain ⟨b, o, rfl, hrow⟩ := H.out (by omega)
      have hall : ∀ i, i < n → BellAt wr b (o + i * 5) (f i) := fun i hi => by obtain ⟨m, hm⟩ := hwr.out; rw [hm]; exact hrow i hi
      obtain ⟨AK, CK, c0, c1, c2, c3, c4, c5⟩ := hall k hlt
      have HR := Lib.hid hall
      clear hrow hall
      cases q1 : bellV (f k)
      · have HK : Hid (goodAt (fun i => bellV (f i)) (fun i => (f i).id) k = false) := Lib.hid (by simp [goodAt, q1])
        have q2 : bellB (f k).id (f k).no (f k).ma (f k).fe (f k).n (f k).ss (f k).ms = false := q1
        have HC := Lib.hid (show ∀ m, Calls Tryz.prog 70 #[.pointer (some ⟨b, o + k * 5, none⟩)] (wr.drewN m) (fun e w' => e = .returned (.bool false) ∧ ∃ m2, w' = (wr.drewN m).drewN m2) from fun m => by have hq := sbell_calls b (o + k * 5) _ _ _ _ _ _ CK _ _ (wr.drewN m) fid c5 fss fn c0 c1 c2 c3 c4; rwa [q2] at hq)
        clear c1 c2 c3 c4 c5
        go_wp2_with fail
        go_quiet ((go_at_call 70; with_reducible exact quiet_more (HC.out _)))
        go_wp2
        go_ret
        exact ⟨ret_bool (by rw [← HRES.out, bellsOk_no hlt HK.out]), by obtain ⟨m, hm⟩ := hwr.out; rw [hm]; exact ⟨_, World.drewN_drewN _ _ _⟩⟩
      · have q2 : bellB (f k).id (f k).no (f k).ma (f k).fe (f k).n (f k).ss (f k).ms = true := q1
        rcases Nat.eq_zero_or_pos k with hz | hz
        · have hd1 : decide ((0 : Int) < (k : Int)) = false := decide_eq_false (by omega)
          have hd2 : decide (0 < k) = false := decide_eq_false (by omega)
          have HK : Hid (goodAt (fun i => bellV (f i)) (fun i => (f i).id) k = true) := Lib.hid (by subst hz; simp [goodAt, q1])
          clear hz
          have HC := Lib.hid (show ∀ m, Calls Tryz.prog 70 #[.pointer (some ⟨b, o + k * 5, none⟩)] (wr.drewN m) (fun e w' => e = .returned (.bool true) ∧ ∃ m2, w' = (wr.drewN m).drewN m2) from fun m => by have hq := sbell_calls b (o + k * 5) _ _ _ _ _ _ CK _ _ (wr.drewN m) fid c5 fss fn c0 c1 c2 c3 c4; rwa [q2] at hq)
          clear c1 c2 c3 c4 c5
          go_wp2_with fail
          go_quiet ((go_at_call 70; with_reducible exact quiet_more (HC.out _)))
          go_wp2
          go_roundw
          case rel => exact ⟨k + 1, by omega, by go_num, Lib.hid (bellsOk_up hgood.out HK.out), Lib.hid (by obtain ⟨m, hm⟩ := hwr.out; rw [hm]; exact ⟨_, World.drewN_drewN _ _ _⟩)⟩
          case measure => simp [intOf]; omega
        · obtain ⟨j, hj⟩ : ∃ j, k = j + 1 := ⟨k - 1, by omega⟩
          obtain ⟨-, -, pr, -⟩ := HR.out j (by omega)
          have hd1 : decide ((0 : Int) < (k : Int)) = true := decide_eq_true (by omega)
          have hd2 : decide (0 < k) = true := decide_eq_true (by omega)
          have hw : IntKind.i64.wrap ((k : Int) - 1) = (j : Int) := (IntWalk.i64_in _ ⟨by omega, by omega⟩).trans (by omega)
          have hjn : j < n := by omega
          have hg : goodAt (fun i => bellV (f i)) (fun i => (f i).id) k = Op.bytesLess (f j).id.toList (f k).id.toList := by subst hj; simp [goodAt, q1]
          clear hj hz
          cases q3 : Op.bytesLess (f j).id.toList (f k).id.toList
          · have HK := Lib.hid (show goodAt (fun i => bellV (f i)) (fun i => (f i).id) k = false by rw [hg, q3])
            clear hg
            have HC := Lib.hid (show ∀ m, Calls Tryz.prog 70 #[.pointer (some ⟨b, o + k * 5, none⟩)] (wr.drewN m) (fun e w' => e = .returned (.bool true) ∧ ∃ m2, w' = (wr.drewN m).drewN m2) from fun m => by have hq := sbell_calls b (o + k * 5) _ _ _ _ _ _ CK _ _ (wr.drewN m) fid c5 fss fn c0 c1 c2 c3 c4; rwa [q2] at hq)
            clear c1 c2 c3 c4 c5
            go_wp2_with fail
            go_quiet ((go_at_call 70; with_reducible exact quiet_more (HC.out _)))
            go_wp2
            go_ret
            exact ⟨ret_bool (by rw [← HRES.out, bellsOk_no hlt HK.out]), by obtain ⟨m, hm⟩ := hwr.out; rw [hm]; exact ⟨_, World.drewN_drewN _ _ _⟩⟩
          · have HK := Lib.hid (show goodAt (fun i => bellV (f i)) (fun i => (f i).id) k = true by rw [hg, q3])
            clear hg
            have HC := Lib.hid (show ∀ m, Calls Tryz.prog 70 #[.pointer (some ⟨b, o + k * 5, none⟩)] (wr.drewN m) (fun e w' => e = .returned (.bool true) ∧ ∃ m2, w' = (wr.drewN m).drewN m2) from fun m => by have hq := sbell_calls b (o + k * 5) _ _ _ _ _ _ CK _ _ (wr.drewN m) fid c5 fss fn c0 c1 c2 c3 c4; rwa [q2] at hq)
            clear c1 c2 c3 c4 c5
            go_wp2_with fail
            go_quiet ((go_at_call 70; with_reducible exact quiet_more (HC.out _)))
            go_wp2
            go_roundw
            case rel => exact ⟨k + 1, by omega, by go_num, Lib.hid (bellsOk_up hgood.out HK.out), Lib.hid (by obtain ⟨m, hm⟩ := hwr.out; rw [hm]; exact ⟨_, World.drewN_drewN _ _ _⟩)⟩
            case measure => simp [intOf]; omega
    · obtain rfl : k = n := by omega
      by_cases hm : (k : Int) ≤ 24
      all_goals
        go_wp2
        go_ret
        exact ⟨ret_bool (by rw [← HRES.out, hgood.out]; simp [hm] <;> omega), hwr.out⟩
end Go.Proofs.YticnpibkpfpojaaGreatDoor
