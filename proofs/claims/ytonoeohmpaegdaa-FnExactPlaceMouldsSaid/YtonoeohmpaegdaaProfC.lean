/- ValidProfile, in the program and in the reference. -/
import Derived.Test.YtonoeohmpaegdaaProfB
namespace Go.Proofs.Ytonoeohmpaegdaa
set_option linter.unusedVariables false
open Go.RowKit

theorem cell_al {W : World} {a : Addr} {v : Value} (h : W.cell? a = some v) (o : Obj) : (W.alloc o).cell? a = some v := (Go.World.cell?_alloc_some _ _ _ (by rw [h]; rfl)).trans h
theorem cell_al2 {W : World} {a : Addr} {v : Value} (h : W.cell? a = some v) (o o2 : Obj) : ((W.alloc o).alloc o2).cell? a = some v := cell_al (cell_al h o) o2
set_option maxRecDepth 20000 in
set_option maxHeartbeats 8000000 in
theorem ValidProfile_calls (s : ByteArray) (A : Option Addr) (n c : Nat) (p q h : Nat → Int) (w : World) (hs : s.size ≤ maxLen) (hr : RingRow w A n p q h) (hn : n ≤ 1048576) :
    Calls Try.prog 43 #[.agg #[.string s, .slice A n c]] w fun e w' => e = .returned (.bool (profB s n p q h)) ∧ Below w.heap.size w w' := by
  generalize hres : profB s n p q h = R
  have HRES := Lib.hid hres
  have H := Lib.hid hr
  have HAL := Lib.hid ((Below.refl w.heap.size w).alloc (Nat.le_refl _) (.cells #[.string s, .slice A n c] 69))
  clear hr hres
  cases q1 : nameB s
  ·
    go_enter Try.func43, Try.ntmps43
    go_wp2_with (go_at_call 81; refine (isName_calls _ _ hs).mono ?_; rintro e w1 ⟨rfl, hb⟩; rw [q1]; have hbx1 := Lib.hid ((Blk.new w 69 #[.string s, .slice A n c]).keep hb); have x1 := (hbx1.out.cell 1).trans rfl; have hB := HAL.out.trans (hb.mono HAL.out.size); clear hb)
    go_ret
    exact ⟨ret_bool (by rw [← HRES.out]; simp only [profB, q1]; simp), hB⟩
  · by_cases q2 : n < 1
    · have q2i : (n : Int) < 1 := by omega
      have q2d : decide (1 ≤ n) = false := decide_eq_false (by omega)
      go_enter Try.func43, Try.ntmps43
      go_wp2_with (go_at_call 81; refine (isName_calls _ _ hs).mono ?_; rintro e w1 ⟨rfl, hb⟩; rw [q1]; have hbx1 := Lib.hid ((Blk.new w 69 #[.string s, .slice A n c]).keep hb); have x1 := (hbx1.out.cell 1).trans rfl; have hB := HAL.out.trans (hb.mono HAL.out.size); clear hb)
      go_ret
      exact ⟨ret_bool (by rw [← HRES.out]; simp only [profB, q1, q2d]; simp), hB⟩
    · have q2i : ¬ (n : Int) < 1 := by omega
      have q2d : decide (1 ≤ n) = true := decide_eq_true (by omega)
      by_cases q3 : 32 < n
      · have q3i : (32 : Int) < n := by omega
        have q3d : decide (n ≤ 32) = false := decide_eq_false (by omega)
        go_enter Try.func43, Try.ntmps43
        go_wp2_with (go_at_call 81; refine (isName_calls _ _ hs).mono ?_; rintro e w1 ⟨rfl, hb⟩; rw [q1]; have hbx1 := Lib.hid ((Blk.new w 69 #[.string s, .slice A n c]).keep hb); have x1 := (hbx1.out.cell 1).trans rfl; have hB := HAL.out.trans (hb.mono HAL.out.size); clear hb)
        go_ret
        exact ⟨ret_bool (by rw [← HRES.out]; simp only [profB, q1, q2d, q3d]; simp), hB⟩
      · have q3i : ¬ (32 : Int) < n := by omega
        have q3d : decide (n ≤ 32) = true := decide_eq_true (by omega)
        cases q4 : anyB (fun i => !ringB (p i) (q i) (h i)) n
        · have q4d : allB (fun i => ringB (p i) (q i) (h i)) n = true := allB_yes fun i hi => by
            cases qq : ringB (p i) (q i) (h i)
            · have := anyB_hit (p := fun i => !ringB (p i) (q i) (h i)) hi (by simp [qq])
              rw [q4] at this; cases this
            · rfl
          have HRB := Lib.hid q4d
          go_enter Try.func43, Try.ntmps43
          go_wp2_with (first | (go_at_call 81; refine (isName_calls _ _ hs).mono ?_; rintro e w1 ⟨rfl, hb⟩; rw [q1]; have hbx1 := Lib.hid ((Blk.new w 69 #[.string s, .slice A n c]).keep hb); have x1 := (hbx1.out.cell 1).trans rfl; have hB := HAL.out.trans (hb.mono HAL.out.size); clear hb) | (go_at_call 82; refine (anyRing A n c p q h (fun i => !ringB (p i) (q i) (h i)) _ (H.out.below hB (Nat.le_refl _)) (by omega) (fun k W hk hb => badRing_calls _ _ _ W)).mono ?_; rw [q4]; rintro e w2 ⟨rfl, hb2⟩; have hbx2 := Lib.hid (hbx1.out.keep hb2); have hB2 := hB.trans (hb2.mono hB.size); clear hb2))
          clear hB x1
          go_loopw [3] (fun i wr => ∃ k : Nat, 1 ≤ k ∧ k ≤ n ∧ i = .int .i64 k ∧ Hid (allB (jnAt p q) k = true) ∧ Hid (Blk wr w.heap.size 69 #[.string s, .slice A n c]) ∧ Below w.heap.size w wr) (fun i _ => n - (intOf i).toNat)
          case atStart => exact ⟨1, by omega, by omega, rfl, Lib.hid rfl, hbx2, hB2⟩
          case round =>
            obtain ⟨k, hk1, hk, rfl, hgood, hbx, hbr⟩ := hrel
            have y0 := (hbx.out.cell 0).trans rfl
            have y1 := (hbx.out.cell 1).trans rfl
            clear hB2 hbx2
            by_cases hlt : k < n
            · obtain ⟨j, hj⟩ : ∃ j, k = j + 1 := ⟨k - 1, by omega⟩
              obtain ⟨b, o, rfl, hrow⟩ := H.out (by omega)
              obtain ⟨c0, c1, c2⟩ := (hrow k hlt).below hbr (Nat.le_refl _)
              obtain ⟨d0, d1, d2⟩ := (hrow j (by omega)).below hbr (Nat.le_refl _)
              have ej : IntKind.i64.wrap ((k : Int) - 1) = (j : Int) := (IntWalk.i64_in _ ⟨by omega, by omega⟩).trans (by omega)
              have ej2 : (k : Int) - 1 = (j : Int) := by omega
              have hjn : j < n := by omega
              have hjk : jnAt p q k = joinB (p j) (q j) (p k) (q k) := by subst hj; simp [jnAt]
              have HJK := Lib.hid hjk
              have HR := Lib.hid hrow
              have k0 := hbr
              have kx := Lib.hid hbx.out
              clear hrow hj hjk
              go_wp2_with fail
              refine wp_gen (fun W1 hW1 => ?_)
              rw [← hW1] at c0 c1 c2 d0 d1 d2 y0 y1 k0 kx
              clear hW1
              have c0a := cell_al c0
              have c0b := cell_al2 c0
              have c1a := cell_al c1
              have c1b := cell_al2 c1
              have c2a := cell_al c2
              have c2b := cell_al2 c2
              have d0a := cell_al d0
              have d0b := cell_al2 d0
              have d1a := cell_al d1
              have d1b := cell_al2 d1
              have d2a := cell_al d2
              have d2b := cell_al2 d2
              have y0a := cell_al y0
              have y0b := cell_al2 y0
              have y1a := cell_al y1
              have y1b := cell_al2 y1
              go_cut [4, 5] (fun s4 s5 wx => ∃ g1 g2 : Nat, s4 = .pointer (some ⟨g1, 0, none⟩) ∧ s5 = .pointer (some ⟨g2, 0, none⟩) ∧ Hid (Below w.heap.size w wx ∧ Blk wx w.heap.size 69 #[.string s, .slice (some ⟨b, o, none⟩) n c] ∧ wx.cell? ⟨g1, 0, none⟩ = some (.int .i64 (p j)) ∧ wx.cell? ⟨g1, 1, none⟩ = some (.int .i64 (q j)) ∧ wx.cell? ⟨g1, 2, none⟩ = some (.int .i64 (h j)) ∧ wx.cell? ⟨g2, 0, none⟩ = some (.int .i64 (p k)) ∧ wx.cell? ⟨g2, 1, none⟩ = some (.int .i64 (q k)) ∧ wx.cell? ⟨g2, 2, none⟩ = some (.int .i64 (h k))))
              case first =>
                go_region
                all_goals (go_wp2_with fail)
                all_goals go_meet
                all_goals refine ⟨_, _, rfl, rfl, Lib.hid ⟨((k0.alloc k0.size _).alloc (by have := k0.size; simp; omega) _).drew, ((kx.out.alloc _).alloc _).drew, ?_⟩⟩
                all_goals and_intros
                all_goals simp
              case rest =>
                obtain ⟨g1, g2, rfl, rfl, hcc⟩ := hcut
                obtain ⟨hb5, kb5, z0, z1, z2, z3, z4, z5⟩ := hcc.out
                have KB5 := Lib.hid kb5
                clear hcc kb5
                cases p1 : decide (p k ≤ q j)
                · cases p2 : decide (p j ≤ q k)
                  · have HK : Hid (jnAt p q k = true) := Lib.hid (by have r1 := of_decide_eq_false p1; have r2 := of_decide_eq_false p2; rw [HJK.out, joinB, decide_eq_true (by omega), decide_eq_true (by omega)]; rfl)
                    go_wp2
                    go_roundw
                    case rel => exact ⟨k + 1, by omega, by omega, by go_num, Lib.hid (by rw [show allB (jnAt p q) (k + 1) = (allB (jnAt p q) k && jnAt p q k) from rfl, hgood.out, HK.out]; rfl), KB5, hb5⟩
                    case measure => simp [intOf]; omega
                  · have HK : Hid (jnAt p q k = false) := Lib.hid (by have r2 := of_decide_eq_true p2; rw [HJK.out, joinB, decide_eq_false (p := q k < p j) (by omega), Bool.and_false])
                    go_wp2
                    go_ret
                    exact ⟨ret_bool (by rw [← HRES.out]; simp only [profB, allB_no hlt HK.out]; simp), hb5⟩
                · have HK : Hid (jnAt p q k = false) := Lib.hid (by have r1 := of_decide_eq_true p1; rw [HJK.out, joinB, decide_eq_false (p := q j < p k) (by omega), Bool.false_and])
                  go_wp2
                  go_ret
                  exact ⟨ret_bool (by rw [← HRES.out]; simp only [profB, allB_no hlt HK.out]; simp), hb5⟩
            · obtain rfl : k = n := by omega
              go_wp2_with (go_at_call 85; refine (height_calls s A k c p q h wr (H.out.below hbr (Nat.le_refl _)) hn (fun i hi => by have := (ringB_of (allB_of HRB.out i hi)).2.2; omega)).mono ?_; rintro e w6 ⟨rfl, hb6⟩; have hb7 := hbr.trans (hb6.mono hbr.size); clear hb6)
              go_ret
              exact ⟨ret_bool (by rw [← HRES.out]; simp only [profB, q1, q2d, q3d, HRB.out, hgood.out]; simp), hb7⟩
        · have q4d : allB (fun i => ringB (p i) (q i) (h i)) n = false := by
            obtain ⟨i, hi, hb⟩ := anyB_of q4
            exact allB_no hi (by simpa using hb)
          go_enter Try.func43, Try.ntmps43
          go_wp2_with (first | (go_at_call 81; refine (isName_calls _ _ hs).mono ?_; rintro e w1 ⟨rfl, hb⟩; rw [q1]; have hbx1 := Lib.hid ((Blk.new w 69 #[.string s, .slice A n c]).keep hb); have x1 := (hbx1.out.cell 1).trans rfl; have hB := HAL.out.trans (hb.mono HAL.out.size); clear hb) | (go_at_call 82; refine (anyRing A n c p q h (fun i => !ringB (p i) (q i) (h i)) _ (H.out.below hB (Nat.le_refl _)) (by omega) (fun k W hk hb => badRing_calls _ _ _ W)).mono ?_; rw [q4]; rintro e w2 ⟨rfl, hb2⟩; have hbx2 := Lib.hid (hbx1.out.keep hb2); have hB2 := hB.trans (hb2.mono hB.size); clear hb2))
          go_ret
          exact ⟨ret_bool (by rw [← HRES.out]; simp only [profB, q4d]; simp), hB2⟩
set_option maxRecDepth 20000 in
set_option maxHeartbeats 8000000 in
theorem l05Ok_calls (bb oo : Nat) (s : ByteArray) (A : Option Addr) (n c : Nat) (p q h : Nat → Int) (w : World) (hs : s.size ≤ maxLen) (hr : RingRow w A n p q h) (hn : n ≤ 1048576) (g0 : w.cell? ⟨bb, oo, none⟩ = some (.string s)) (g1 : w.cell? ⟨bb, oo + 1, none⟩ = some (.slice A n c)) :
    Calls Try.prog 33 #[.pointer (some ⟨bb, oo, none⟩)] w fun e w' => e = .returned (.bool (profB s n p q h)) ∧ ∃ m, w' = w.drewN m := by
  generalize hres : profB s n p q h = R
  have HRES := Lib.hid hres
  have H := Lib.hid hr
  clear hr hres
  cases q1 : nameB s
  ·
    go_enter Try.func33, Try.ntmps33
    go_wp2_with (go_at_call 73; refine (sname_calls _ _ hs).mono ?_; rintro e w1 ⟨rfl, rfl⟩; rw [q1])
    go_ret
    exact ⟨ret_bool (by rw [← HRES.out]; simp only [profB, q1]; simp), 0, rfl⟩
  · by_cases q2 : n < 1
    · have q2i : (n : Int) < 1 := by omega
      have q2d : decide (1 ≤ n) = false := decide_eq_false (by omega)
      go_enter Try.func33, Try.ntmps33
      go_wp2_with (go_at_call 73; refine (sname_calls _ _ hs).mono ?_; rintro e w1 ⟨rfl, rfl⟩; rw [q1])
      go_ret
      exact ⟨ret_bool (by rw [← HRES.out]; simp only [profB, q1, q2d]; simp), 0, rfl⟩
    · have q2i : ¬ (n : Int) < 1 := by omega
      have q2d : decide (1 ≤ n) = true := decide_eq_true (by omega)
      by_cases q3 : 32 < n
      · have q3i : (32 : Int) < n := by omega
        have q3d : decide (n ≤ 32) = false := decide_eq_false (by omega)
        go_enter Try.func33, Try.ntmps33
        go_wp2_with (go_at_call 73; refine (sname_calls _ _ hs).mono ?_; rintro e w1 ⟨rfl, rfl⟩; rw [q1])
        go_ret
        exact ⟨ret_bool (by rw [← HRES.out]; simp only [profB, q1, q2d, q3d]; simp), 0, rfl⟩
      · have q3i : ¬ (32 : Int) < n := by omega
        have q3d : decide (n ≤ 32) = true := decide_eq_true (by omega)
        go_enter Try.func33, Try.ntmps33
        go_wp2_with (go_at_call 73; refine (sname_calls _ _ hs).mono ?_; rintro e w1 ⟨rfl, rfl⟩; rw [q1])
        go_loopw [3] (fun i wr => ∃ k : Nat, k ≤ n ∧ i = .int .i64 k ∧ Hid (allB (fun i => ringB (p i) (q i) (h i) && jnAt p q i) k = true) ∧ Hid (∃ m, wr = w.drewN m)) (fun i _ => n - (intOf i).toNat)
        case atStart => exact ⟨0, by omega, rfl, Lib.hid rfl, Lib.hid ⟨0, rfl⟩⟩
        case round =>
          obtain ⟨k, hk, rfl, hgood, hwr⟩ := hrel
          have f1 : wr.cell? ⟨bb, oo + 1, none⟩ = some (.slice A n c) := by obtain ⟨m, hm⟩ := hwr.out; rw [hm]; exact g1
          by_cases hlt : k < n
          · obtain ⟨b, o, rfl, hrow⟩ := H.out (by omega)
            obtain ⟨c0, c1, c2⟩ : RingAt wr b (o + k * 3) (p k) (q k) (h k) := by obtain ⟨m, hm⟩ := hwr.out; rw [hm]; exact hrow k hlt
            have HR := Lib.hid hrow
            clear hrow
            have hcr : ∀ m, Calls Try.prog 74 #[.pointer (some ⟨b, o + k * 3, none⟩)] (wr.drewN m) (fun e w' => e = .returned (.bool (ringB (p k) (q k) (h k))) ∧ ∃ m2, w' = (wr.drewN m).drewN m2) := fun m => l05Ring_calls b (o + k * 3) _ _ _ (wr.drewN m) c0 c1 c2
            cases q5 : ringB (p k) (q k) (h k)
            · have HK : Hid ((ringB (p k) (q k) (h k) && jnAt p q k) = false) := Lib.hid (by rw [q5]; rfl)
              rw [q5] at hcr
              have HCR := Lib.hid hcr
              have HCJ := Lib.hid True.intro
              clear hcr
              go_wp2_with fail
              go_quiet (first | (go_at_call 74; with_reducible exact quiet_more (HCR.out _)) | (go_at_call 75; with_reducible exact quiet_more (HCJ.out _)))
              go_wp2
              go_ret
              exact ⟨ret_bool (by rw [← HRES.out]; have hz : allB (fun i => ringB (p i) (q i) (h i) && jnAt p q i) n = false := allB_no hlt HK.out; rw [allB_and] at hz; rcases Bool.and_eq_false_iff.1 hz with hz | hz <;> simp only [profB, hz] <;> simp), by obtain ⟨q, hq⟩ := hwr.out; rw [hq]; exact ⟨_, World.drewN_drewN _ _ _⟩⟩
            · rw [q5] at hcr
              have HCR := Lib.hid hcr
              clear hcr
              rcases Nat.eq_zero_or_pos k with hz | hz
              · have hd1 : decide ((0 : Int) < (k : Int)) = false := decide_eq_false (by omega)
                have hd2 : decide (0 < k) = false := decide_eq_false (by omega)
                have HK : Hid ((ringB (p k) (q k) (h k) && jnAt p q k) = true) := Lib.hid (by rw [q5]; subst hz; rfl)
                have HCJ := Lib.hid True.intro
                clear hz
                go_wp2_with fail
                go_quiet (first | (go_at_call 74; with_reducible exact quiet_more (HCR.out _)) | (go_at_call 75; with_reducible exact quiet_more (HCJ.out _)))
                go_wp2
                go_roundw
                case rel => exact ⟨k + 1, by omega, by go_num, Lib.hid (by rw [show allB (fun i => ringB (p i) (q i) (h i) && jnAt p q i) (k + 1) = (allB (fun i => ringB (p i) (q i) (h i) && jnAt p q i) k && (ringB (p k) (q k) (h k) && jnAt p q k)) from rfl, hgood.out, HK.out]; rfl), Lib.hid (by obtain ⟨q, hq⟩ := hwr.out; rw [hq]; exact ⟨_, World.drewN_drewN _ _ _⟩)⟩
                case measure => simp [intOf]; omega
              · obtain ⟨j, hj⟩ : ∃ j, k = j + 1 := ⟨k - 1, by omega⟩
                obtain ⟨d0, d1, d2⟩ : RingAt wr b (o + j * 3) (p j) (q j) (h j) := by obtain ⟨m, hm⟩ := hwr.out; rw [hm]; exact HR.out j (by omega)
                have hd1 : decide ((0 : Int) < (k : Int)) = true := decide_eq_true (by omega)
                have hd2 : decide (0 < k) = true := decide_eq_true (by omega)
                have hw : IntKind.i64.wrap ((k : Int) - 1) = (j : Int) := (IntWalk.i64_in _ ⟨by omega, by omega⟩).trans (by omega)
                have hjn : j < n := by omega
                have hjk : jnAt p q k = joinB (p j) (q j) (p k) (q k) := by subst hj; simp [jnAt]
                have hcj : ∀ m, Calls Try.prog 75 #[.pointer (some ⟨b, o + j * 3, none⟩), .pointer (some ⟨b, o + k * 3, none⟩)] (wr.drewN m) (fun e w' => e = .returned (.bool (joinB (p j) (q j) (p k) (q k))) ∧ ∃ m2, w' = (wr.drewN m).drewN m2) := fun m => l05Joined_calls b (o + j * 3) b (o + k * 3) _ _ _ _ (wr.drewN m) d0 d1 c0 c1
                clear hj hz
                cases q6 : joinB (p j) (q j) (p k) (q k)
                · have HK : Hid ((ringB (p k) (q k) (h k) && jnAt p q k) = false) := Lib.hid (by rw [hjk, q6, Bool.and_false])
                  rw [q6] at hcj
                  have HCJ := Lib.hid hcj
                  clear hcj hjk
                  go_wp2_with fail
                  go_quiet (first | (go_at_call 74; with_reducible exact quiet_more (HCR.out _)) | (go_at_call 75; with_reducible exact quiet_more (HCJ.out _)))
                  go_wp2
                  go_ret
                  exact ⟨ret_bool (by rw [← HRES.out]; have hz : allB (fun i => ringB (p i) (q i) (h i) && jnAt p q i) n = false := allB_no hlt HK.out; rw [allB_and] at hz; rcases Bool.and_eq_false_iff.1 hz with hz | hz <;> simp only [profB, hz] <;> simp), by obtain ⟨q, hq⟩ := hwr.out; rw [hq]; exact ⟨_, World.drewN_drewN _ _ _⟩⟩
                · have HK : Hid ((ringB (p k) (q k) (h k) && jnAt p q k) = true) := Lib.hid (by rw [hjk, q6, q5]; rfl)
                  rw [q6] at hcj
                  have HCJ := Lib.hid hcj
                  clear hcj hjk
                  go_wp2_with fail
                  go_quiet (first | (go_at_call 74; with_reducible exact quiet_more (HCR.out _)) | (go_at_call 75; with_reducible exact quiet_more (HCJ.out _)))
                  go_wp2
                  go_roundw
                  case rel => exact ⟨k + 1, by omega, by go_num, Lib.hid (by rw [show allB (fun i => ringB (p i) (q i) (h i) && jnAt p q i) (k + 1) = (allB (fun i => ringB (p i) (q i) (h i) && jnAt p q i) k && (ringB (p k) (q k) (h k) && jnAt p q k)) from rfl, hgood.out, HK.out]; rfl), Lib.hid (by obtain ⟨q, hq⟩ := hwr.out; rw [hq]; exact ⟨_, World.drewN_drewN _ _ _⟩)⟩
                  case measure => simp [intOf]; omega
          · obtain rfl : k = n := by omega
            have hsp := hgood.out
            rw [allB_and] at hsp
            obtain ⟨hg1, hg2⟩ := Bool.and_eq_true _ _ |>.mp hsp
            have HG1 := Lib.hid hg1
            have HG2 := Lib.hid hg2
            clear hsp hg1 hg2
            go_wp2_with (go_at_call 76; refine (l05Height_calls bb oo A k c p q h wr (by obtain ⟨m, hm⟩ := hwr.out; rw [hm]; exact H.out) hn (fun i hi => by have := (ringB_of (allB_of HG1.out i hi)).2.2; omega) f1).mono ?_; rintro e w6 ⟨rfl, rfl⟩)
            go_ret
            exact ⟨ret_bool (by rw [← HRES.out]; simp only [profB, q1, q2d, q3d, HG1.out, HG2.out]; simp), hwr.out⟩
end Go.Proofs.Ytonoeohmpaegdaa
