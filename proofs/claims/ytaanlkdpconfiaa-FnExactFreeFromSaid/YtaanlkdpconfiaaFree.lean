/- FreeFrom, in the program and in the reference. -/
import Derived.Test.YtaanlkdpconfiaaFreeL
namespace Go.Proofs.Ytaanlkdpconfiaa
set_option linter.unusedVariables false
set_option linter.unusedSimpArgs false
open Go.RowKit

noncomputable def freeC (n : Nat) (bs : Nat → ByteArray) (br bd : Nat → Int) (n2 : Nat) (cs : Nat → ByteArray) (cr cd ct cf : Nat → Int) (n3 : Nat) (p : Nat → Int) (bay t : Int) : Int :=
  if baysB n bs br bd = true ∧ castsB n2 cs cr cd ct cf = true then (if placesB br bd cr cd p ct cf n n2 n3 = true then (if inB bay 0 ((n : Int) - 1) = true ∧ inB t 0 1000000 = true then 0 else 2) else 6) else 1
noncomputable def freeV (n : Nat) (bs : Nat → ByteArray) (br bd : Nat → Int) (n2 : Nat) (cs : Nat → ByteArray) (cr cd ct cf : Nat → Int) (n3 : Nat) (p : Nat → Int) (bay t : Int) : Int :=
  if freeC n bs br bd n2 cs cr cd ct cf n3 p bay t = 0 then flim p ct cf bay n2 1054361 t else 0
set_option maxHeartbeats 8000000 in
theorem FreeFrom_calls (A : Option Addr) (n c : Nat) (bs : Nat → ByteArray) (br bd : Nat → Int) (B : Option Addr) (n2 c2 : Nat) (cs : Nat → ByteArray) (cr cd ct cf : Nat → Int) (P : Option Addr) (n3 cp : Nat) (p : Nat → Int) (bay t : Int) (w : World) (hbs : ∀ i, i < n → (bs i).size ≤ maxLen) (hcs : ∀ i, i < n2 → (cs i).size ≤ maxLen) (h : BayRow w A n bs br bd) (h2 : CastingRow w B n2 cs cr cd ct cf) (h3 : IntRow w P n3 p) (hn : n ≤ 1048576) (hn2 : n2 ≤ 1048576) (hn3 : n3 ≤ 1048576) (hcp : n3 ≤ cp) (hcm : cp ≤ maxLen) :
    Calls Try.prog 31 #[.slice A n c, .slice B n2 c2, .slice P n3 cp, .int .i64 bay, .int .i64 t] w fun e w' => e = .returned (.tuple #[.int .i64 (freeV n bs br bd n2 cs cr cd ct cf n3 p bay t), .int .i64 (freeC n bs br bd n2 cs cr cd ct cf n3 p bay t)]) ∧ Below w.heap.size w w' := by
  have H := Lib.hid h
  have H2 := Lib.hid h2
  have H3 := Lib.hid h3
  clear h h2 h3
  cases q1 : baysB n bs br bd
  ·
    go_enter Try.func31, Try.ntmps31
    go_wp2_with (first | (go_at_call 89; refine (impl_ValidBays_calls A n c bs br bd w H.out hbs (by unfold maxLen; omega)).mono ?_; rintro e w1 ⟨rfl, hb1⟩; rw [show (allB (goodAt (fun i => bayB (bs i) (br i) (bd i)) bs) n && decide ((n : Int) ≤ 8)) = _ from q1]) | (go_at_call 90; refine (impl_ValidCastings_calls B n2 c2 cs cr cd ct cf w1 (H2.out.below hb1 (Nat.le_refl _)) hcs (by unfold maxLen; omega)).mono ?_; rintro e w2 ⟨rfl, hb2⟩; have hb3 := hb1.trans (hb2.mono hb1.size); rw [show (allB (goodAt (fun i => castB (cs i) (cr i) (cd i) (ct i) (cf i)) cs) n2 && decide ((n2 : Int) ≤ 12)) = _ from q2]) | (go_at_call 91; refine (arePossible_calls A n c bs br bd B n2 c2 cs cr cd ct cf P n3 cp p w2 (H.out.below hb3 (Nat.le_refl _)) (H2.out.below hb3 (Nat.le_refl _)) (H3.out.keep hb3) HO.out hn hn2 hn3 hcp hcm).mono ?_; rintro e w4 ⟨rfl, hb4⟩; have hb5 := hb3.trans (hb4.mono hb3.size); rw [q3]) | (go_at_call 93; refine (sizeBays_calls _ _ _ _ hn).mono ?_; rintro e w1 ⟨rfl, rfl⟩) | (go_at_call 92; refine (within_calls _ _ _ _).mono ?_; rintro e w1 ⟨rfl, rfl⟩; rw [q4]) | (go_at_call 94; refine (isMinute_calls _ _).mono ?_; rintro e w1 ⟨rfl, rfl⟩; rw [q5]))
    go_ret2
    refine ⟨?_, hb1⟩
    rw [freeV, show freeC n bs br bd n2 cs cr cd ct cf n3 p bay t = 1 by simp [freeC, q1]]
    rfl
  · cases q2 : castsB n2 cs cr cd ct cf
    ·
      go_enter Try.func31, Try.ntmps31
      go_wp2_with (first | (go_at_call 89; refine (impl_ValidBays_calls A n c bs br bd w H.out hbs (by unfold maxLen; omega)).mono ?_; rintro e w1 ⟨rfl, hb1⟩; rw [show (allB (goodAt (fun i => bayB (bs i) (br i) (bd i)) bs) n && decide ((n : Int) ≤ 8)) = _ from q1]) | (go_at_call 90; refine (impl_ValidCastings_calls B n2 c2 cs cr cd ct cf w1 (H2.out.below hb1 (Nat.le_refl _)) hcs (by unfold maxLen; omega)).mono ?_; rintro e w2 ⟨rfl, hb2⟩; have hb3 := hb1.trans (hb2.mono hb1.size); rw [show (allB (goodAt (fun i => castB (cs i) (cr i) (cd i) (ct i) (cf i)) cs) n2 && decide ((n2 : Int) ≤ 12)) = _ from q2]) | (go_at_call 91; refine (arePossible_calls A n c bs br bd B n2 c2 cs cr cd ct cf P n3 cp p w2 (H.out.below hb3 (Nat.le_refl _)) (H2.out.below hb3 (Nat.le_refl _)) (H3.out.keep hb3) HO.out hn hn2 hn3 hcp hcm).mono ?_; rintro e w4 ⟨rfl, hb4⟩; have hb5 := hb3.trans (hb4.mono hb3.size); rw [q3]) | (go_at_call 93; refine (sizeBays_calls _ _ _ _ hn).mono ?_; rintro e w1 ⟨rfl, rfl⟩) | (go_at_call 92; refine (within_calls _ _ _ _).mono ?_; rintro e w1 ⟨rfl, rfl⟩; rw [q4]) | (go_at_call 94; refine (isMinute_calls _ _).mono ?_; rintro e w1 ⟨rfl, rfl⟩; rw [q5]))
      go_ret2
      refine ⟨?_, hb3⟩
      rw [freeV, show freeC n bs br bd n2 cs cr cd ct cf n3 p bay t = 1 by simp [freeC, q1, q2]]
      rfl
    · have HO := Lib.hid (castsB_ok q2)
      cases q3 : placesB br bd cr cd p ct cf n n2 n3
      ·
        go_enter Try.func31, Try.ntmps31
        go_wp2_with (first | (go_at_call 89; refine (impl_ValidBays_calls A n c bs br bd w H.out hbs (by unfold maxLen; omega)).mono ?_; rintro e w1 ⟨rfl, hb1⟩; rw [show (allB (goodAt (fun i => bayB (bs i) (br i) (bd i)) bs) n && decide ((n : Int) ≤ 8)) = _ from q1]) | (go_at_call 90; refine (impl_ValidCastings_calls B n2 c2 cs cr cd ct cf w1 (H2.out.below hb1 (Nat.le_refl _)) hcs (by unfold maxLen; omega)).mono ?_; rintro e w2 ⟨rfl, hb2⟩; have hb3 := hb1.trans (hb2.mono hb1.size); rw [show (allB (goodAt (fun i => castB (cs i) (cr i) (cd i) (ct i) (cf i)) cs) n2 && decide ((n2 : Int) ≤ 12)) = _ from q2]) | (go_at_call 91; refine (arePossible_calls A n c bs br bd B n2 c2 cs cr cd ct cf P n3 cp p w2 (H.out.below hb3 (Nat.le_refl _)) (H2.out.below hb3 (Nat.le_refl _)) (H3.out.keep hb3) HO.out hn hn2 hn3 hcp hcm).mono ?_; rintro e w4 ⟨rfl, hb4⟩; have hb5 := hb3.trans (hb4.mono hb3.size); rw [q3]) | (go_at_call 93; refine (sizeBays_calls _ _ _ _ hn).mono ?_; rintro e w1 ⟨rfl, rfl⟩) | (go_at_call 92; refine (within_calls _ _ _ _).mono ?_; rintro e w1 ⟨rfl, rfl⟩; rw [q4]) | (go_at_call 94; refine (isMinute_calls _ _).mono ?_; rintro e w1 ⟨rfl, rfl⟩; rw [q5]))
        go_ret2
        refine ⟨?_, hb5⟩
        rw [freeV, show freeC n bs br bd n2 cs cr cd ct cf n3 p bay t = 6 by simp [freeC, q1, q2, q3]]
        rfl
      · cases q4 : inB bay 0 ((n : Int) - 1)
        ·
          go_enter Try.func31, Try.ntmps31
          go_wp2_with (first | (go_at_call 89; refine (impl_ValidBays_calls A n c bs br bd w H.out hbs (by unfold maxLen; omega)).mono ?_; rintro e w1 ⟨rfl, hb1⟩; rw [show (allB (goodAt (fun i => bayB (bs i) (br i) (bd i)) bs) n && decide ((n : Int) ≤ 8)) = _ from q1]) | (go_at_call 90; refine (impl_ValidCastings_calls B n2 c2 cs cr cd ct cf w1 (H2.out.below hb1 (Nat.le_refl _)) hcs (by unfold maxLen; omega)).mono ?_; rintro e w2 ⟨rfl, hb2⟩; have hb3 := hb1.trans (hb2.mono hb1.size); rw [show (allB (goodAt (fun i => castB (cs i) (cr i) (cd i) (ct i) (cf i)) cs) n2 && decide ((n2 : Int) ≤ 12)) = _ from q2]) | (go_at_call 91; refine (arePossible_calls A n c bs br bd B n2 c2 cs cr cd ct cf P n3 cp p w2 (H.out.below hb3 (Nat.le_refl _)) (H2.out.below hb3 (Nat.le_refl _)) (H3.out.keep hb3) HO.out hn hn2 hn3 hcp hcm).mono ?_; rintro e w4 ⟨rfl, hb4⟩; have hb5 := hb3.trans (hb4.mono hb3.size); rw [q3]) | (go_at_call 93; refine (sizeBays_calls _ _ _ _ hn).mono ?_; rintro e w1 ⟨rfl, rfl⟩) | (go_at_call 92; refine (within_calls _ _ _ _).mono ?_; rintro e w1 ⟨rfl, rfl⟩; rw [q4]) | (go_at_call 94; refine (isMinute_calls _ _).mono ?_; rintro e w1 ⟨rfl, rfl⟩; rw [q5]))
          go_ret2
          refine ⟨?_, hb5⟩
          rw [freeV, show freeC n bs br bd n2 cs cr cd ct cf n3 p bay t = 2 by simp [freeC, q1, q2, q3, q4]]
          rfl
        · cases q5 : inB t 0 1000000
          ·
            go_enter Try.func31, Try.ntmps31
            go_wp2_with (first | (go_at_call 89; refine (impl_ValidBays_calls A n c bs br bd w H.out hbs (by unfold maxLen; omega)).mono ?_; rintro e w1 ⟨rfl, hb1⟩; rw [show (allB (goodAt (fun i => bayB (bs i) (br i) (bd i)) bs) n && decide ((n : Int) ≤ 8)) = _ from q1]) | (go_at_call 90; refine (impl_ValidCastings_calls B n2 c2 cs cr cd ct cf w1 (H2.out.below hb1 (Nat.le_refl _)) hcs (by unfold maxLen; omega)).mono ?_; rintro e w2 ⟨rfl, hb2⟩; have hb3 := hb1.trans (hb2.mono hb1.size); rw [show (allB (goodAt (fun i => castB (cs i) (cr i) (cd i) (ct i) (cf i)) cs) n2 && decide ((n2 : Int) ≤ 12)) = _ from q2]) | (go_at_call 91; refine (arePossible_calls A n c bs br bd B n2 c2 cs cr cd ct cf P n3 cp p w2 (H.out.below hb3 (Nat.le_refl _)) (H2.out.below hb3 (Nat.le_refl _)) (H3.out.keep hb3) HO.out hn hn2 hn3 hcp hcm).mono ?_; rintro e w4 ⟨rfl, hb4⟩; have hb5 := hb3.trans (hb4.mono hb3.size); rw [q3]) | (go_at_call 93; refine (sizeBays_calls _ _ _ _ hn).mono ?_; rintro e w1 ⟨rfl, rfl⟩) | (go_at_call 92; refine (within_calls _ _ _ _).mono ?_; rintro e w1 ⟨rfl, rfl⟩; rw [q4]) | (go_at_call 94; refine (isMinute_calls _ _).mono ?_; rintro e w1 ⟨rfl, rfl⟩; rw [q5]))
            go_ret2
            refine ⟨?_, hb5⟩
            rw [freeV, show freeC n bs br bd n2 cs cr cd ct cf n3 p bay t = 2 by simp [freeC, q1, q2, q3, q4, q5]]
            rfl
          · have hc0 : freeC n bs br bd n2 cs cr cd ct cf n3 p bay t = 0 := by simp [freeC, q1, q2, q3, q4, q5]
            rw [freeV, if_pos hc0, hc0]
            obtain ⟨t0, t1⟩ := inB_iff.1 q5
            have h32 : n3 = n2 := by
              have q := q3
              unfold placesB at q
              exact eq_of_beq (Bool.and_eq_true _ _ |>.mp q).1
            have H4 : Hid (IntRow w P n2 p) := Lib.hid (h32 ▸ H3.out)
            have H32 := Lib.hid h32
            clear h32
            have HS := Lib.hid (FInv.start (p := p) (ct := ct) (cf := cf) (bay := bay) (n := n2) t0 t1)
            generalize hR : flim p ct cf bay n2 1054361 t = R at HS ⊢
            clear hR hc0
            go_enter Try.func31, Try.ntmps31
            go_wp2_with (first | (go_at_call 89; refine (impl_ValidBays_calls A n c bs br bd w H.out hbs (by unfold maxLen; omega)).mono ?_; rintro e w1 ⟨rfl, hb1⟩; rw [show (allB (goodAt (fun i => bayB (bs i) (br i) (bd i)) bs) n && decide ((n : Int) ≤ 8)) = _ from q1]) | (go_at_call 90; refine (impl_ValidCastings_calls B n2 c2 cs cr cd ct cf w1 (H2.out.below hb1 (Nat.le_refl _)) hcs (by unfold maxLen; omega)).mono ?_; rintro e w2 ⟨rfl, hb2⟩; have hb3 := hb1.trans (hb2.mono hb1.size); rw [show (allB (goodAt (fun i => castB (cs i) (cr i) (cd i) (ct i) (cf i)) cs) n2 && decide ((n2 : Int) ≤ 12)) = _ from q2]) | (go_at_call 91; refine (arePossible_calls A n c bs br bd B n2 c2 cs cr cd ct cf P n3 cp p w2 (H.out.below hb3 (Nat.le_refl _)) (H2.out.below hb3 (Nat.le_refl _)) (H3.out.keep hb3) HO.out hn hn2 hn3 hcp hcm).mono ?_; rintro e w4 ⟨rfl, hb4⟩; have hb5 := hb3.trans (hb4.mono hb3.size); rw [q3]) | (go_at_call 93; refine (sizeBays_calls _ _ _ _ hn).mono ?_; rintro e w1 ⟨rfl, rfl⟩) | (go_at_call 92; refine (within_calls _ _ _ _).mono ?_; rintro e w1 ⟨rfl, rfl⟩; rw [q4]) | (go_at_call 94; refine (isMinute_calls _ _).mono ?_; rintro e w1 ⟨rfl, rfl⟩; rw [q5]))
            clear q1 q2 q3 q4 q5 hb1 hb2 hb3 hb4
            go_loopw [12, 4] (fun ch x wr => ∃ (b : Bool) (v : Int), ch = .bool b ∧ x = .int .i64 v ∧ Hid (FInv p ct cf bay n2 R v b) ∧ Below w.heap.size w wr) (fun ch x _ => (1054361 - intOf x).toNat + bitOf ch)
            case atStart => exact ⟨true, t, rfl, rfl, HS, hb5⟩
            case round =>
              obtain ⟨b, v, rfl, rfl, hf, hbr⟩ := hrel
              clear hb5 HS
              cases b
              · go_wp2
                go_ret2
                exact ⟨by rw [hf.out.2.2.1 rfl]; rfl, hbr⟩
              · go_wp2
                go_loopw [45, 12, 4] (fun i ch x wr => ∃ (k : Nat) (b : Bool) (x' : Int), k ≤ n2 ∧ i = .int .i64 k ∧ ch = .bool b ∧ x = .int .i64 x' ∧ Hid (GInv p ct cf bay n2 R v x' b k) ∧ Below w.heap.size w wr) (fun i _ _ _ => n2 - (intOf i).toNat)
                case atStart => exact ⟨0, false, v, by omega, rfl, rfl, rfl, Lib.hid (GInv.start hf.out.2.1), hbr⟩
                case round =>
                  clear hbr
                  obtain ⟨k, b, x', hk, rfl, rfl, rfl, hg, hbr⟩ := hrel
                  by_cases hlt : k < n2
                  · have hk3 : k < n3 := by have := H32.out; omega
                    obtain ⟨b3, o3, rfl, hrow3⟩ := H4.out (by omega)
                    obtain ⟨b2, o2, rfl, hrow2⟩ := H2.out (by omega)
                    have c0 : wr.cell? ⟨b3, o3 + k, none⟩ = some (.int .i64 (p k)) := (hbr.cell (p := ⟨b3, o3 + k, none⟩) (cell_lt (hrow3 k hlt))).trans (hrow3 k hlt)
                    obtain ⟨u0, u1, u2, u3, u4⟩ := (hrow2 k hlt).below hbr (Nat.le_refl _)
                    obtain ⟨a0, a1⟩ := HO.out k hlt
                    have hsb := strip_bd HO.out hlt
                    have e1 : IntKind.i64.wrap (strip (ct k) (cf k) - 1) = strip (ct k) (cf k) - 1 := IntWalk.i64_in _ ⟨by omega, by omega⟩
                    have HR3 := Lib.hid hrow3
                    have HR2 := Lib.hid hrow2
                    clear hrow3 hrow2 hsb
                    cases q7 : (p k == bay)
                    · have hh : Hid (hitB p ct cf bay x' k = false) := Lib.hid (by simp [hitB, q7])
                      have q8 : True := trivial
                      go_wp2_with fail
                      refine wp_gen (fun W0 hW0 => ?_)
                      have s0_ : Below w.heap.size w W0 := by rw [hW0]; exact hbr.alloc hbr.size _
                      have s1_ : W0.cell? ⟨wr.heap.size, 0, none⟩ = some (.string (cs k)) := by simp [hW0]
                      have s2_ : W0.cell? ⟨wr.heap.size, 1, none⟩ = some (.int .i64 (cr k)) := by simp [hW0]
                      have s3_ : W0.cell? ⟨wr.heap.size, 2, none⟩ = some (.int .i64 (cd k)) := by simp [hW0]
                      have s4_ : W0.cell? ⟨wr.heap.size, 3, none⟩ = some (.int .i64 (ct k)) := by simp [hW0]
                      have s5_ : W0.cell? ⟨wr.heap.size, 4, none⟩ = some (.int .i64 (cf k)) := by simp [hW0]
                      have s6_ : W0.cell? ⟨b3, o3 + k, none⟩ = some (.int .i64 (p k)) := by rw [hW0]; exact (Go.World.cell?_alloc_some _ _ _ (by rw [c0]; rfl)).trans c0
                      have s7_ : wr.heap.size < W0.heap.size := by simp [hW0]
                      clear hW0
                      refine wp_region_held_drew (S := fun w' => Below w.heap.size w w' ∧ w'.cell? ⟨wr.heap.size, 0, none⟩ = some (.string (cs k)) ∧ w'.cell? ⟨wr.heap.size, 1, none⟩ = some (.int .i64 (cr k)) ∧ w'.cell? ⟨wr.heap.size, 2, none⟩ = some (.int .i64 (cd k)) ∧ w'.cell? ⟨wr.heap.size, 3, none⟩ = some (.int .i64 (ct k)) ∧ w'.cell? ⟨wr.heap.size, 4, none⟩ = some (.int .i64 (cf k)) ∧ w'.cell? ⟨b3, o3 + k, none⟩ = some (.int .i64 (p k)) ∧ wr.heap.size < w'.heap.size) (by kernel_rfl) ?_ (fun hHeld => ?_)
                      · exact ⟨s0_.drew, s1_, s2_, s3_, s4_, s5_, s6_, s7_⟩
                      clear s0_ s1_ s2_ s3_ s4_ s5_ s6_ s7_
                      refine take_yes (i := 0) (d := 50) (v := ?_) _ rfl rfl (by kernel_rfl) (by kernel_rfl) (by kernel_rfl) (fun _ _ _ _ h => h) (by rfl) ?_ (by assumption) ?_
                      rotate_left 1
                      · ((intro w hSw; (try dsimp only at hSw); go_simp) <;> (try with_reducible rfl))
                      (try simp only [Act.put, List.setIfInBounds_toArray, List.set_cons_zero, List.set_cons_succ])
                      refine take_yes (i := 1) (d := 51) (v := ?_) _ rfl rfl (by kernel_rfl) (by kernel_rfl) (by kernel_rfl) (fun _ _ _ _ h => h) (by rfl) ?_ (by assumption) ?_
                      rotate_left 1
                      · ((intro w hSw; (try dsimp only at hSw); go_simp) <;> (try with_reducible rfl))
                      (try simp only [Act.put, List.setIfInBounds_toArray, List.set_cons_zero, List.set_cons_succ])
                      refine take_yes (i := 2) (d := 52) (v := ?_) _ rfl rfl (by kernel_rfl) (by kernel_rfl) (by kernel_rfl) (fun _ _ _ _ h => h) (by rfl) ?_ (by assumption) ?_
                      rotate_left 1
                      · ((intro w hSw; (try dsimp only at hSw); go_simp) <;> (try with_reducible rfl))
                      (try simp only [Act.put, List.setIfInBounds_toArray, List.set_cons_zero, List.set_cons_succ])
                      refine take_yes (i := 3) (d := 53) (v := ?_) _ rfl rfl (by kernel_rfl) (by kernel_rfl) (by kernel_rfl) (fun _ _ _ _ h => h) (by rfl) ?_ (by assumption) ?_
                      rotate_left 1
                      · ((intro w hSw; (try dsimp only at hSw); go_simp) <;> (try with_reducible rfl))
                      (try simp only [Act.put, List.setIfInBounds_toArray, List.set_cons_zero, List.set_cons_succ])
                      refine take_yes (i := 4) (d := 54) (v := ?_) _ rfl rfl (by kernel_rfl) (by kernel_rfl) (by kernel_rfl) (fun _ _ _ _ h => h) (by rfl) ?_ (by assumption) ?_
                      rotate_left 1
                      · ((intro w hSw; (try dsimp only at hSw); go_simp) <;> (try with_reducible rfl))
                      (try simp only [Act.put, List.setIfInBounds_toArray, List.set_cons_zero, List.set_cons_succ])
                      refine take_yes (i := 5) (d := 55) (v := ?_) _ rfl rfl (by kernel_rfl) (by kernel_rfl) (by kernel_rfl) (fun _ _ _ _ h => h) (by rfl) ?_ (by assumption) ?_
                      rotate_left 1
                      · ((intro w hSw; (try dsimp only at hSw); go_simp) <;> (try with_reducible rfl))
                      (try simp only [Act.put, List.setIfInBounds_toArray, List.set_cons_zero, List.set_cons_succ])
                      refine take_yes (i := 6) (d := 56) (v := ?_) _ rfl rfl (by kernel_rfl) (by kernel_rfl) (by kernel_rfl) (fun _ _ _ _ h => h) (by rfl) ?_ (by assumption) ?_
                      rotate_left 1
                      · ((intro w hSw; (try dsimp only at hSw); go_simp) <;> (try with_reducible rfl))
                      (try simp only [Act.put, List.setIfInBounds_toArray, List.set_cons_zero, List.set_cons_succ])
                      (refine take_no (i := 7) (d := 57) _ rfl rfl (by kernel_rfl) (by kernel_rfl) (by kernel_rfl) (fun _ _ _ _ h => h) (by rfl) (by assumption) ?_; (try simp only [Act.put, List.setIfInBounds_toArray, List.set_cons_zero, List.set_cons_succ]))
                      (refine take_no (i := 8) (d := 58) _ rfl rfl (by kernel_rfl) (by kernel_rfl) (by kernel_rfl) (fun _ _ _ _ h => h) (by rfl) (by assumption) ?_; (try simp only [Act.put, List.setIfInBounds_toArray, List.set_cons_zero, List.set_cons_succ]))
                      (refine take_no (i := 9) (d := 59) _ rfl rfl (by kernel_rfl) (by kernel_rfl) (by kernel_rfl) (fun _ _ _ _ h => h) (by rfl) (by assumption) ?_; (try simp only [Act.put, List.setIfInBounds_toArray, List.set_cons_zero, List.set_cons_succ]))
                      (refine take_no (i := 10) (d := 60) _ rfl rfl (by kernel_rfl) (by kernel_rfl) (by kernel_rfl) (fun _ _ _ _ h => h) (by rfl) (by assumption) ?_; (try simp only [Act.put, List.setIfInBounds_toArray, List.set_cons_zero, List.set_cons_succ]))
                      (refine take_no (i := 11) (d := 61) _ rfl rfl (by kernel_rfl) (by kernel_rfl) (by kernel_rfl) (fun _ _ _ _ h => h) (by rfl) (by assumption) ?_; (try simp only [Act.put, List.setIfInBounds_toArray, List.set_cons_zero, List.set_cons_succ]))
                      (refine take_no (i := 12) (d := 62) _ rfl rfl (by kernel_rfl) (by kernel_rfl) (by kernel_rfl) (fun _ _ _ _ h => h) (by rfl) (by assumption) ?_; (try simp only [Act.put, List.setIfInBounds_toArray, List.set_cons_zero, List.set_cons_succ]))
                      (refine take_no (i := 13) (d := 63) _ rfl rfl (by kernel_rfl) (by kernel_rfl) (by kernel_rfl) (fun _ _ _ _ h => h) (by rfl) (by assumption) ?_; (try simp only [Act.put, List.setIfInBounds_toArray, List.set_cons_zero, List.set_cons_succ]))
                      refine take_yes (i := 14) (d := 64) (v := ?_) _ rfl rfl (by kernel_rfl) (by kernel_rfl) (by kernel_rfl) (fun _ _ _ _ h => h) (by rfl) ?_ (by assumption) ?_
                      rotate_left 1
                      · ((intro w hSw; (try dsimp only at hSw); go_simp) <;> (try with_reducible rfl))
                      (try simp only [Act.put, List.setIfInBounds_toArray, List.set_cons_zero, List.set_cons_succ])
                      refine wpAnyH_done (by kernel_rfl) ?_ _
                      obtain ⟨z0, z1, z2, z3, z4, z5, z6, z7⟩ := hHeld
                      go_wp2
                      go_roundw
                      case rel => exact ⟨k + 1, b, x', by omega, by go_num, rfl, rfl, Lib.hid (hg.out.miss hh.out), z0⟩
                      case measure => simp [intOf]; omega
                    · cases q8 : inB x' (cf k) (strip (ct k) (cf k) - 1)
                      · have hh : Hid (hitB p ct cf bay x' k = false) := Lib.hid (by simp [hitB, q8])
                        go_wp2_with fail
                        refine wp_gen (fun W0 hW0 => ?_)
                        have s0_ : Below w.heap.size w W0 := by rw [hW0]; exact hbr.alloc hbr.size _
                        have s1_ : W0.cell? ⟨wr.heap.size, 0, none⟩ = some (.string (cs k)) := by simp [hW0]
                        have s2_ : W0.cell? ⟨wr.heap.size, 1, none⟩ = some (.int .i64 (cr k)) := by simp [hW0]
                        have s3_ : W0.cell? ⟨wr.heap.size, 2, none⟩ = some (.int .i64 (cd k)) := by simp [hW0]
                        have s4_ : W0.cell? ⟨wr.heap.size, 3, none⟩ = some (.int .i64 (ct k)) := by simp [hW0]
                        have s5_ : W0.cell? ⟨wr.heap.size, 4, none⟩ = some (.int .i64 (cf k)) := by simp [hW0]
                        have s6_ : W0.cell? ⟨b3, o3 + k, none⟩ = some (.int .i64 (p k)) := by rw [hW0]; exact (Go.World.cell?_alloc_some _ _ _ (by rw [c0]; rfl)).trans c0
                        have s7_ : wr.heap.size < W0.heap.size := by simp [hW0]
                        clear hW0
                        refine wp_region_held_drew (S := fun w' => Below w.heap.size w w' ∧ w'.cell? ⟨wr.heap.size, 0, none⟩ = some (.string (cs k)) ∧ w'.cell? ⟨wr.heap.size, 1, none⟩ = some (.int .i64 (cr k)) ∧ w'.cell? ⟨wr.heap.size, 2, none⟩ = some (.int .i64 (cd k)) ∧ w'.cell? ⟨wr.heap.size, 3, none⟩ = some (.int .i64 (ct k)) ∧ w'.cell? ⟨wr.heap.size, 4, none⟩ = some (.int .i64 (cf k)) ∧ w'.cell? ⟨b3, o3 + k, none⟩ = some (.int .i64 (p k)) ∧ wr.heap.size < w'.heap.size) (by kernel_rfl) ?_ (fun hHeld => ?_)
                        · exact ⟨s0_.drew, s1_, s2_, s3_, s4_, s5_, s6_, s7_⟩
                        clear s0_ s1_ s2_ s3_ s4_ s5_ s6_ s7_
                        refine take_yes (i := 0) (d := 50) (v := ?_) _ rfl rfl (by kernel_rfl) (by kernel_rfl) (by kernel_rfl) (fun _ _ _ _ h => h) (by rfl) ?_ (by assumption) ?_
                        rotate_left 1
                        · ((intro w hSw; (try dsimp only at hSw); go_simp) <;> (try with_reducible rfl))
                        (try simp only [Act.put, List.setIfInBounds_toArray, List.set_cons_zero, List.set_cons_succ])
                        refine take_yes (i := 1) (d := 51) (v := ?_) _ rfl rfl (by kernel_rfl) (by kernel_rfl) (by kernel_rfl) (fun _ _ _ _ h => h) (by rfl) ?_ (by assumption) ?_
                        rotate_left 1
                        · ((intro w hSw; (try dsimp only at hSw); go_simp) <;> (try with_reducible rfl))
                        (try simp only [Act.put, List.setIfInBounds_toArray, List.set_cons_zero, List.set_cons_succ])
                        refine take_yes (i := 2) (d := 52) (v := ?_) _ rfl rfl (by kernel_rfl) (by kernel_rfl) (by kernel_rfl) (fun _ _ _ _ h => h) (by rfl) ?_ (by assumption) ?_
                        rotate_left 1
                        · ((intro w hSw; (try dsimp only at hSw); go_simp) <;> (try with_reducible rfl))
                        (try simp only [Act.put, List.setIfInBounds_toArray, List.set_cons_zero, List.set_cons_succ])
                        refine take_yes (i := 3) (d := 53) (v := ?_) _ rfl rfl (by kernel_rfl) (by kernel_rfl) (by kernel_rfl) (fun _ _ _ _ h => h) (by rfl) ?_ (by assumption) ?_
                        rotate_left 1
                        · ((intro w hSw; (try dsimp only at hSw); go_simp) <;> (try with_reducible rfl))
                        (try simp only [Act.put, List.setIfInBounds_toArray, List.set_cons_zero, List.set_cons_succ])
                        refine take_yes (i := 4) (d := 54) (v := ?_) _ rfl rfl (by kernel_rfl) (by kernel_rfl) (by kernel_rfl) (fun _ _ _ _ h => h) (by rfl) ?_ (by assumption) ?_
                        rotate_left 1
                        · ((intro w hSw; (try dsimp only at hSw); go_simp) <;> (try with_reducible rfl))
                        (try simp only [Act.put, List.setIfInBounds_toArray, List.set_cons_zero, List.set_cons_succ])
                        refine take_yes (i := 5) (d := 55) (v := ?_) _ rfl rfl (by kernel_rfl) (by kernel_rfl) (by kernel_rfl) (fun _ _ _ _ h => h) (by rfl) ?_ (by assumption) ?_
                        rotate_left 1
                        · ((intro w hSw; (try dsimp only at hSw); go_simp) <;> (try with_reducible rfl))
                        (try simp only [Act.put, List.setIfInBounds_toArray, List.set_cons_zero, List.set_cons_succ])
                        refine take_yes (i := 6) (d := 56) (v := ?_) _ rfl rfl (by kernel_rfl) (by kernel_rfl) (by kernel_rfl) (fun _ _ _ _ h => h) (by rfl) ?_ (by assumption) ?_
                        rotate_left 1
                        · ((intro w hSw; (try dsimp only at hSw); go_simp) <;> (try with_reducible rfl))
                        (try simp only [Act.put, List.setIfInBounds_toArray, List.set_cons_zero, List.set_cons_succ])
                        refine take_yes (i := 7) (d := 57) (v := ?_) _ rfl rfl (by kernel_rfl) (by kernel_rfl) (by kernel_rfl) (fun _ _ _ _ h => h) (by rfl) ?_ (by assumption) ?_
                        rotate_left 1
                        · ((intro w hSw; (try dsimp only at hSw); go_simp) <;> (try with_reducible rfl))
                        (try simp only [Act.put, List.setIfInBounds_toArray, List.set_cons_zero, List.set_cons_succ])
                        refine take_yes (i := 8) (d := 58) (v := ?_) _ rfl rfl (by kernel_rfl) (by kernel_rfl) (by kernel_rfl) (fun _ _ _ _ h => h) (by rfl) ?_ (by assumption) ?_
                        rotate_left 1
                        · ((intro w hSw; (try dsimp only at hSw); go_simp) <;> (try with_reducible rfl))
                        (try simp only [Act.put, List.setIfInBounds_toArray, List.set_cons_zero, List.set_cons_succ])
                        refine take_yes (i := 9) (d := 59) (v := ?_) _ rfl rfl (by kernel_rfl) (by kernel_rfl) (by kernel_rfl) (fun _ _ _ _ h => h) (by rfl) ?_ (by assumption) ?_
                        rotate_left 1
                        · ((intro w hSw; (try dsimp only at hSw); go_simp) <;> (try with_reducible rfl))
                        (try simp only [Act.put, List.setIfInBounds_toArray, List.set_cons_zero, List.set_cons_succ])
                        refine take_yes (i := 10) (d := 60) (v := ?_) _ rfl rfl (by kernel_rfl) (by kernel_rfl) (by kernel_rfl) (fun _ _ _ _ h => h) (by rfl) ?_ (by assumption) ?_
                        rotate_left 1
                        · ((intro w hSw; (try dsimp only at hSw); go_simp) <;> (try with_reducible rfl))
                        (try simp only [Act.put, List.setIfInBounds_toArray, List.set_cons_zero, List.set_cons_succ])
                        (refine wpAnyH_ready (rs := [11]) (by kernel_rfl) (by simp) ?_; refine AllReadyH.cons rfl (fun K hK => ?_) AllReadyH.nil; go_simp; go_at_call 95; refine (stripTime_calls _ _ _ _ _ _ a0.1 a0.2 a1.1 a1.2).mono ?_; rintro e wd ⟨rfl, hb⟩; refine hK.out _ _ (by obtain ⟨x0_, x1_, x2_, x3_, x4_, x5_, x6_, x7_⟩ := hHeld; exact ⟨x0_.trans (hb.mono x0_.size), cell_keep hb x1_, cell_keep hb x2_, cell_keep hb x3_, cell_keep hb x4_, cell_keep hb x5_, cell_keep hb x6_, Nat.lt_of_lt_of_le x7_ hb.size⟩) (fun hHeld2 => ?_); clear hK K hHeld hb; have hHeld := hHeld2; clear hHeld2; (try simp only [Act.put, List.setIfInBounds_toArray, List.set_cons_zero, List.set_cons_succ]))
                        refine take_yes (i := 12) (d := 62) (v := ?_) _ rfl rfl (by kernel_rfl) (by kernel_rfl) (by kernel_rfl) (fun _ _ _ _ h => h) (by rfl) ?_ (by assumption) ?_
                        rotate_left 1
                        · ((intro w hSw; (try dsimp only at hSw); go_simp) <;> (try with_reducible rfl))
                        (try simp only [Act.put, List.setIfInBounds_toArray, List.set_cons_zero, List.set_cons_succ])
                        (refine wpAnyH_ready (rs := [13]) (by kernel_rfl) (by simp) ?_; refine AllReadyH.cons rfl (fun K hK => ?_) AllReadyH.nil; go_simp; go_at_call 92; refine (within_calls _ _ _ _).mono ?_; simp only [e1, q8]; rintro e wd ⟨rfl, rfl⟩; refine hK.out _ _ (by assumption) (fun hHeld2 => ?_); clear hK K hHeld; have hHeld := hHeld2; clear hHeld2; (try simp only [Act.put, List.setIfInBounds_toArray, List.set_cons_zero, List.set_cons_succ]))
                        refine take_yes (i := 14) (d := 64) (v := ?_) _ rfl rfl (by kernel_rfl) (by kernel_rfl) (by kernel_rfl) (fun _ _ _ _ h => h) (by rfl) ?_ (by assumption) ?_
                        rotate_left 1
                        · ((intro w hSw; (try dsimp only at hSw); go_simp) <;> (try with_reducible rfl))
                        (try simp only [Act.put, List.setIfInBounds_toArray, List.set_cons_zero, List.set_cons_succ])
                        refine wpAnyH_done (by kernel_rfl) ?_ _
                        obtain ⟨z0, z1, z2, z3, z4, z5, z6, z7⟩ := hHeld
                        go_wp2
                        go_roundw
                        case rel => exact ⟨k + 1, b, x', by omega, by go_num, rfl, rfl, Lib.hid (hg.out.miss hh.out), z0⟩
                        case measure => simp [intOf]; omega
                      · have hh : Hid (hitB p ct cf bay x' k = true) := Lib.hid (by simp only [hitB, q7, q8]; rfl)
                        go_wp2_with fail
                        refine wp_gen (fun W0 hW0 => ?_)
                        have s0_ : Below w.heap.size w W0 := by rw [hW0]; exact hbr.alloc hbr.size _
                        have s1_ : W0.cell? ⟨wr.heap.size, 0, none⟩ = some (.string (cs k)) := by simp [hW0]
                        have s2_ : W0.cell? ⟨wr.heap.size, 1, none⟩ = some (.int .i64 (cr k)) := by simp [hW0]
                        have s3_ : W0.cell? ⟨wr.heap.size, 2, none⟩ = some (.int .i64 (cd k)) := by simp [hW0]
                        have s4_ : W0.cell? ⟨wr.heap.size, 3, none⟩ = some (.int .i64 (ct k)) := by simp [hW0]
                        have s5_ : W0.cell? ⟨wr.heap.size, 4, none⟩ = some (.int .i64 (cf k)) := by simp [hW0]
                        have s6_ : W0.cell? ⟨b3, o3 + k, none⟩ = some (.int .i64 (p k)) := by rw [hW0]; exact (Go.World.cell?_alloc_some _ _ _ (by rw [c0]; rfl)).trans c0
                        have s7_ : wr.heap.size < W0.heap.size := by simp [hW0]
                        clear hW0
                        refine wp_region_held_drew (S := fun w' => Below w.heap.size w w' ∧ w'.cell? ⟨wr.heap.size, 0, none⟩ = some (.string (cs k)) ∧ w'.cell? ⟨wr.heap.size, 1, none⟩ = some (.int .i64 (cr k)) ∧ w'.cell? ⟨wr.heap.size, 2, none⟩ = some (.int .i64 (cd k)) ∧ w'.cell? ⟨wr.heap.size, 3, none⟩ = some (.int .i64 (ct k)) ∧ w'.cell? ⟨wr.heap.size, 4, none⟩ = some (.int .i64 (cf k)) ∧ w'.cell? ⟨b3, o3 + k, none⟩ = some (.int .i64 (p k)) ∧ wr.heap.size < w'.heap.size) (by kernel_rfl) ?_ (fun hHeld => ?_)
                        · exact ⟨s0_.drew, s1_, s2_, s3_, s4_, s5_, s6_, s7_⟩
                        clear s0_ s1_ s2_ s3_ s4_ s5_ s6_ s7_
                        refine take_yes (i := 0) (d := 50) (v := ?_) _ rfl rfl (by kernel_rfl) (by kernel_rfl) (by kernel_rfl) (fun _ _ _ _ h => h) (by rfl) ?_ (by assumption) ?_
                        rotate_left 1
                        · ((intro w hSw; (try dsimp only at hSw); go_simp) <;> (try with_reducible rfl))
                        (try simp only [Act.put, List.setIfInBounds_toArray, List.set_cons_zero, List.set_cons_succ])
                        refine take_yes (i := 1) (d := 51) (v := ?_) _ rfl rfl (by kernel_rfl) (by kernel_rfl) (by kernel_rfl) (fun _ _ _ _ h => h) (by rfl) ?_ (by assumption) ?_
                        rotate_left 1
                        · ((intro w hSw; (try dsimp only at hSw); go_simp) <;> (try with_reducible rfl))
                        (try simp only [Act.put, List.setIfInBounds_toArray, List.set_cons_zero, List.set_cons_succ])
                        refine take_yes (i := 2) (d := 52) (v := ?_) _ rfl rfl (by kernel_rfl) (by kernel_rfl) (by kernel_rfl) (fun _ _ _ _ h => h) (by rfl) ?_ (by assumption) ?_
                        rotate_left 1
                        · ((intro w hSw; (try dsimp only at hSw); go_simp) <;> (try with_reducible rfl))
                        (try simp only [Act.put, List.setIfInBounds_toArray, List.set_cons_zero, List.set_cons_succ])
                        refine take_yes (i := 3) (d := 53) (v := ?_) _ rfl rfl (by kernel_rfl) (by kernel_rfl) (by kernel_rfl) (fun _ _ _ _ h => h) (by rfl) ?_ (by assumption) ?_
                        rotate_left 1
                        · ((intro w hSw; (try dsimp only at hSw); go_simp) <;> (try with_reducible rfl))
                        (try simp only [Act.put, List.setIfInBounds_toArray, List.set_cons_zero, List.set_cons_succ])
                        refine take_yes (i := 4) (d := 54) (v := ?_) _ rfl rfl (by kernel_rfl) (by kernel_rfl) (by kernel_rfl) (fun _ _ _ _ h => h) (by rfl) ?_ (by assumption) ?_
                        rotate_left 1
                        · ((intro w hSw; (try dsimp only at hSw); go_simp) <;> (try with_reducible rfl))
                        (try simp only [Act.put, List.setIfInBounds_toArray, List.set_cons_zero, List.set_cons_succ])
                        refine take_yes (i := 5) (d := 55) (v := ?_) _ rfl rfl (by kernel_rfl) (by kernel_rfl) (by kernel_rfl) (fun _ _ _ _ h => h) (by rfl) ?_ (by assumption) ?_
                        rotate_left 1
                        · ((intro w hSw; (try dsimp only at hSw); go_simp) <;> (try with_reducible rfl))
                        (try simp only [Act.put, List.setIfInBounds_toArray, List.set_cons_zero, List.set_cons_succ])
                        refine take_yes (i := 6) (d := 56) (v := ?_) _ rfl rfl (by kernel_rfl) (by kernel_rfl) (by kernel_rfl) (fun _ _ _ _ h => h) (by rfl) ?_ (by assumption) ?_
                        rotate_left 1
                        · ((intro w hSw; (try dsimp only at hSw); go_simp) <;> (try with_reducible rfl))
                        (try simp only [Act.put, List.setIfInBounds_toArray, List.set_cons_zero, List.set_cons_succ])
                        refine take_yes (i := 7) (d := 57) (v := ?_) _ rfl rfl (by kernel_rfl) (by kernel_rfl) (by kernel_rfl) (fun _ _ _ _ h => h) (by rfl) ?_ (by assumption) ?_
                        rotate_left 1
                        · ((intro w hSw; (try dsimp only at hSw); go_simp) <;> (try with_reducible rfl))
                        (try simp only [Act.put, List.setIfInBounds_toArray, List.set_cons_zero, List.set_cons_succ])
                        refine take_yes (i := 8) (d := 58) (v := ?_) _ rfl rfl (by kernel_rfl) (by kernel_rfl) (by kernel_rfl) (fun _ _ _ _ h => h) (by rfl) ?_ (by assumption) ?_
                        rotate_left 1
                        · ((intro w hSw; (try dsimp only at hSw); go_simp) <;> (try with_reducible rfl))
                        (try simp only [Act.put, List.setIfInBounds_toArray, List.set_cons_zero, List.set_cons_succ])
                        refine take_yes (i := 9) (d := 59) (v := ?_) _ rfl rfl (by kernel_rfl) (by kernel_rfl) (by kernel_rfl) (fun _ _ _ _ h => h) (by rfl) ?_ (by assumption) ?_
                        rotate_left 1
                        · ((intro w hSw; (try dsimp only at hSw); go_simp) <;> (try with_reducible rfl))
                        (try simp only [Act.put, List.setIfInBounds_toArray, List.set_cons_zero, List.set_cons_succ])
                        refine take_yes (i := 10) (d := 60) (v := ?_) _ rfl rfl (by kernel_rfl) (by kernel_rfl) (by kernel_rfl) (fun _ _ _ _ h => h) (by rfl) ?_ (by assumption) ?_
                        rotate_left 1
                        · ((intro w hSw; (try dsimp only at hSw); go_simp) <;> (try with_reducible rfl))
                        (try simp only [Act.put, List.setIfInBounds_toArray, List.set_cons_zero, List.set_cons_succ])
                        (refine wpAnyH_ready (rs := [11]) (by kernel_rfl) (by simp) ?_; refine AllReadyH.cons rfl (fun K hK => ?_) AllReadyH.nil; go_simp; go_at_call 95; refine (stripTime_calls _ _ _ _ _ _ a0.1 a0.2 a1.1 a1.2).mono ?_; rintro e wd ⟨rfl, hb⟩; refine hK.out _ _ (by obtain ⟨x0_, x1_, x2_, x3_, x4_, x5_, x6_, x7_⟩ := hHeld; exact ⟨x0_.trans (hb.mono x0_.size), cell_keep hb x1_, cell_keep hb x2_, cell_keep hb x3_, cell_keep hb x4_, cell_keep hb x5_, cell_keep hb x6_, Nat.lt_of_lt_of_le x7_ hb.size⟩) (fun hHeld2 => ?_); clear hK K hHeld hb; have hHeld := hHeld2; clear hHeld2; (try simp only [Act.put, List.setIfInBounds_toArray, List.set_cons_zero, List.set_cons_succ]))
                        refine take_yes (i := 12) (d := 62) (v := ?_) _ rfl rfl (by kernel_rfl) (by kernel_rfl) (by kernel_rfl) (fun _ _ _ _ h => h) (by rfl) ?_ (by assumption) ?_
                        rotate_left 1
                        · ((intro w hSw; (try dsimp only at hSw); go_simp) <;> (try with_reducible rfl))
                        (try simp only [Act.put, List.setIfInBounds_toArray, List.set_cons_zero, List.set_cons_succ])
                        (refine wpAnyH_ready (rs := [13]) (by kernel_rfl) (by simp) ?_; refine AllReadyH.cons rfl (fun K hK => ?_) AllReadyH.nil; go_simp; go_at_call 92; refine (within_calls _ _ _ _).mono ?_; simp only [e1, q8]; rintro e wd ⟨rfl, rfl⟩; refine hK.out _ _ (by assumption) (fun hHeld2 => ?_); clear hK K hHeld; have hHeld := hHeld2; clear hHeld2; (try simp only [Act.put, List.setIfInBounds_toArray, List.set_cons_zero, List.set_cons_succ]))
                        refine take_yes (i := 14) (d := 64) (v := ?_) _ rfl rfl (by kernel_rfl) (by kernel_rfl) (by kernel_rfl) (fun _ _ _ _ h => h) (by rfl) ?_ (by assumption) ?_
                        rotate_left 1
                        · ((intro w hSw; (try dsimp only at hSw); go_simp) <;> (try with_reducible rfl))
                        (try simp only [Act.put, List.setIfInBounds_toArray, List.set_cons_zero, List.set_cons_succ])
                        refine wpAnyH_done (by kernel_rfl) ?_ _
                        obtain ⟨z0, z1, z2, z3, z4, z5, z6, z7⟩ := hHeld
                        go_wp2_with (go_at_call 95; refine (stripTime_calls _ _ _ _ _ _ a0.1 a0.2 a1.1 a1.2).mono ?_; rintro e w6 ⟨rfl, hb6⟩; have hb7 := z0.trans (hb6.mono z0.size); clear hb6)
                        go_roundw
                        case rel => exact ⟨k + 1, true, strip (ct k) (cf k), by omega, by go_num, rfl, rfl, Lib.hid (hg.out.hit HO.out hlt hh.out), hb7⟩
                        case measure => simp [intOf]; omega
                  · obtain rfl : k = n2 := by omega
                    have HD := Lib.hid (hg.out.done hf.out)
                    go_wp2
                    go_roundw
                    case rel => exact ⟨b, x', rfl, rfl, Lib.hid HD.out.1, hbr⟩
                    case measure =>
                      have := HD.out.2
                      cases b <;> simp [intOf, bitOf] at this ⊢ <;> omega
set_option maxHeartbeats 8000000 in
theorem sFreeFrom_calls (A : Option Addr) (n c : Nat) (bs : Nat → ByteArray) (br bd : Nat → Int) (B : Option Addr) (n2 c2 : Nat) (cs : Nat → ByteArray) (cr cd ct cf : Nat → Int) (P : Option Addr) (n3 cp : Nat) (p : Nat → Int) (bay t : Int) (w : World) (hbs : ∀ i, i < n → (bs i).size ≤ maxLen) (hcs : ∀ i, i < n2 → (cs i).size ≤ maxLen) (h : BayRow w A n bs br bd) (h2 : CastingRow w B n2 cs cr cd ct cf) (h3 : IntRow w P n3 p) (hn : n ≤ 1048576) (hn2 : n2 ≤ 1048576) (hn3 : n3 ≤ 1048576) :
    Calls Try.prog 27 #[.slice A n c, .slice B n2 c2, .slice P n3 cp, .int .i64 bay, .int .i64 t] w fun e w' => e = .returned (.tuple #[.int .i64 (freeV n bs br bd n2 cs cr cd ct cf n3 p bay t), .int .i64 (freeC n bs br bd n2 cs cr cd ct cf n3 p bay t)]) ∧ Below w.heap.size w w' := by
  have H := Lib.hid h
  have H2 := Lib.hid h2
  have H3 := Lib.hid h3
  clear h h2 h3
  cases q1 : baysB n bs br bd
  ·
    go_enter Try.func27, Try.ntmps27
    go_wp2_with (first | (go_at_call 82; refine (spec_l16Bays_calls A n c bs br bd w H.out hbs (by unfold maxLen; omega)).mono ?_; rintro e w1 ⟨rfl, hb1⟩; rw [show (allB (goodAt (fun i => bayB (bs i) (br i) (bd i)) bs) n && decide ((n : Int) ≤ 8)) = _ from q1]) | (go_at_call 83; refine (spec_l16Castings_calls B n2 c2 cs cr cd ct cf w1 (H2.out.below hb1 (Nat.le_refl _)) hcs (by unfold maxLen; omega)).mono ?_; rintro e w2 ⟨rfl, hb2⟩; have hb3 := hb1.trans (hb2.mono hb1.size); rw [show (allB (goodAt (fun i => castB (cs i) (cr i) (cd i) (ct i) (cf i)) cs) n2 && decide ((n2 : Int) ≤ 12)) = _ from q2]) | (go_at_call 84; refine (l16Check_calls A n c bs br bd B n2 c2 cs cr cd ct cf P n3 cp p w2 (H.out.below hb3 (Nat.le_refl _)) (H2.out.below hb3 (Nat.le_refl _)) (H3.out.keep hb3) HO.out hn hn2 hn3).mono ?_; rintro e w4 ⟨rfl, nd, rfl⟩; have hb5 := below_drewN hb3 nd; rw [q3]) | (go_at_call 85; refine (in_calls _ _ _ _).mono ?_; rintro e w1 ⟨rfl, rfl⟩; first | rw [q4] | rw [q5]))
    go_ret2
    refine ⟨?_, hb1⟩
    rw [freeV, show freeC n bs br bd n2 cs cr cd ct cf n3 p bay t = 1 by simp [freeC, q1]]
    rfl
  · cases q2 : castsB n2 cs cr cd ct cf
    ·
      go_enter Try.func27, Try.ntmps27
      go_wp2_with (first | (go_at_call 82; refine (spec_l16Bays_calls A n c bs br bd w H.out hbs (by unfold maxLen; omega)).mono ?_; rintro e w1 ⟨rfl, hb1⟩; rw [show (allB (goodAt (fun i => bayB (bs i) (br i) (bd i)) bs) n && decide ((n : Int) ≤ 8)) = _ from q1]) | (go_at_call 83; refine (spec_l16Castings_calls B n2 c2 cs cr cd ct cf w1 (H2.out.below hb1 (Nat.le_refl _)) hcs (by unfold maxLen; omega)).mono ?_; rintro e w2 ⟨rfl, hb2⟩; have hb3 := hb1.trans (hb2.mono hb1.size); rw [show (allB (goodAt (fun i => castB (cs i) (cr i) (cd i) (ct i) (cf i)) cs) n2 && decide ((n2 : Int) ≤ 12)) = _ from q2]) | (go_at_call 84; refine (l16Check_calls A n c bs br bd B n2 c2 cs cr cd ct cf P n3 cp p w2 (H.out.below hb3 (Nat.le_refl _)) (H2.out.below hb3 (Nat.le_refl _)) (H3.out.keep hb3) HO.out hn hn2 hn3).mono ?_; rintro e w4 ⟨rfl, nd, rfl⟩; have hb5 := below_drewN hb3 nd; rw [q3]) | (go_at_call 85; refine (in_calls _ _ _ _).mono ?_; rintro e w1 ⟨rfl, rfl⟩; first | rw [q4] | rw [q5]))
      go_ret2
      refine ⟨?_, hb3⟩
      rw [freeV, show freeC n bs br bd n2 cs cr cd ct cf n3 p bay t = 1 by simp [freeC, q1, q2]]
      rfl
    · have HO := Lib.hid (castsB_ok q2)
      cases q3 : placesB br bd cr cd p ct cf n n2 n3
      ·
        go_enter Try.func27, Try.ntmps27
        go_wp2_with (first | (go_at_call 82; refine (spec_l16Bays_calls A n c bs br bd w H.out hbs (by unfold maxLen; omega)).mono ?_; rintro e w1 ⟨rfl, hb1⟩; rw [show (allB (goodAt (fun i => bayB (bs i) (br i) (bd i)) bs) n && decide ((n : Int) ≤ 8)) = _ from q1]) | (go_at_call 83; refine (spec_l16Castings_calls B n2 c2 cs cr cd ct cf w1 (H2.out.below hb1 (Nat.le_refl _)) hcs (by unfold maxLen; omega)).mono ?_; rintro e w2 ⟨rfl, hb2⟩; have hb3 := hb1.trans (hb2.mono hb1.size); rw [show (allB (goodAt (fun i => castB (cs i) (cr i) (cd i) (ct i) (cf i)) cs) n2 && decide ((n2 : Int) ≤ 12)) = _ from q2]) | (go_at_call 84; refine (l16Check_calls A n c bs br bd B n2 c2 cs cr cd ct cf P n3 cp p w2 (H.out.below hb3 (Nat.le_refl _)) (H2.out.below hb3 (Nat.le_refl _)) (H3.out.keep hb3) HO.out hn hn2 hn3).mono ?_; rintro e w4 ⟨rfl, nd, rfl⟩; have hb5 := below_drewN hb3 nd; rw [q3]) | (go_at_call 85; refine (in_calls _ _ _ _).mono ?_; rintro e w1 ⟨rfl, rfl⟩; first | rw [q4] | rw [q5]))
        go_ret2
        refine ⟨?_, hb5⟩
        rw [freeV, show freeC n bs br bd n2 cs cr cd ct cf n3 p bay t = 6 by simp [freeC, q1, q2, q3]]
        rfl
      · cases q4 : inB bay 0 ((n : Int) - 1)
        ·
          go_enter Try.func27, Try.ntmps27
          go_wp2_with (first | (go_at_call 82; refine (spec_l16Bays_calls A n c bs br bd w H.out hbs (by unfold maxLen; omega)).mono ?_; rintro e w1 ⟨rfl, hb1⟩; rw [show (allB (goodAt (fun i => bayB (bs i) (br i) (bd i)) bs) n && decide ((n : Int) ≤ 8)) = _ from q1]) | (go_at_call 83; refine (spec_l16Castings_calls B n2 c2 cs cr cd ct cf w1 (H2.out.below hb1 (Nat.le_refl _)) hcs (by unfold maxLen; omega)).mono ?_; rintro e w2 ⟨rfl, hb2⟩; have hb3 := hb1.trans (hb2.mono hb1.size); rw [show (allB (goodAt (fun i => castB (cs i) (cr i) (cd i) (ct i) (cf i)) cs) n2 && decide ((n2 : Int) ≤ 12)) = _ from q2]) | (go_at_call 84; refine (l16Check_calls A n c bs br bd B n2 c2 cs cr cd ct cf P n3 cp p w2 (H.out.below hb3 (Nat.le_refl _)) (H2.out.below hb3 (Nat.le_refl _)) (H3.out.keep hb3) HO.out hn hn2 hn3).mono ?_; rintro e w4 ⟨rfl, nd, rfl⟩; have hb5 := below_drewN hb3 nd; rw [q3]) | (go_at_call 85; refine (in_calls _ _ _ _).mono ?_; rintro e w1 ⟨rfl, rfl⟩; first | rw [q4] | rw [q5]))
          go_ret2
          refine ⟨?_, hb5⟩
          rw [freeV, show freeC n bs br bd n2 cs cr cd ct cf n3 p bay t = 2 by simp [freeC, q1, q2, q3, q4]]
          rfl
        · cases q5 : inB t 0 1000000
          ·
            go_enter Try.func27, Try.ntmps27
            go_wp2_with (first | (go_at_call 82; refine (spec_l16Bays_calls A n c bs br bd w H.out hbs (by unfold maxLen; omega)).mono ?_; rintro e w1 ⟨rfl, hb1⟩; rw [show (allB (goodAt (fun i => bayB (bs i) (br i) (bd i)) bs) n && decide ((n : Int) ≤ 8)) = _ from q1]) | (go_at_call 83; refine (spec_l16Castings_calls B n2 c2 cs cr cd ct cf w1 (H2.out.below hb1 (Nat.le_refl _)) hcs (by unfold maxLen; omega)).mono ?_; rintro e w2 ⟨rfl, hb2⟩; have hb3 := hb1.trans (hb2.mono hb1.size); rw [show (allB (goodAt (fun i => castB (cs i) (cr i) (cd i) (ct i) (cf i)) cs) n2 && decide ((n2 : Int) ≤ 12)) = _ from q2]) | (go_at_call 84; refine (l16Check_calls A n c bs br bd B n2 c2 cs cr cd ct cf P n3 cp p w2 (H.out.below hb3 (Nat.le_refl _)) (H2.out.below hb3 (Nat.le_refl _)) (H3.out.keep hb3) HO.out hn hn2 hn3).mono ?_; rintro e w4 ⟨rfl, nd, rfl⟩; have hb5 := below_drewN hb3 nd; rw [q3]) | (go_at_call 85; refine (in_calls _ _ _ _).mono ?_; rintro e w1 ⟨rfl, rfl⟩; first | rw [q4] | rw [q5]))
            go_ret2
            refine ⟨?_, hb5⟩
            rw [freeV, show freeC n bs br bd n2 cs cr cd ct cf n3 p bay t = 2 by simp [freeC, q1, q2, q3, q4, q5]]
            rfl
          · have hc0 : freeC n bs br bd n2 cs cr cd ct cf n3 p bay t = 0 := by simp [freeC, q1, q2, q3, q4, q5]
            rw [freeV, if_pos hc0, hc0]
            obtain ⟨t0, t1⟩ := inB_iff.1 q5
            have h32 : n3 = n2 := by
              have q := q3
              unfold placesB at q
              exact eq_of_beq (Bool.and_eq_true _ _ |>.mp q).1
            have H4 : Hid (IntRow w P n2 p) := Lib.hid (h32 ▸ H3.out)
            have H32 := Lib.hid h32
            clear h32
            have HS := Lib.hid (FInv.start (p := p) (ct := ct) (cf := cf) (bay := bay) (n := n2) t0 t1)
            generalize hR : flim p ct cf bay n2 1054361 t = R at HS ⊢
            clear hR hc0
            go_enter Try.func27, Try.ntmps27
            go_wp2_with (first | (go_at_call 82; refine (spec_l16Bays_calls A n c bs br bd w H.out hbs (by unfold maxLen; omega)).mono ?_; rintro e w1 ⟨rfl, hb1⟩; rw [show (allB (goodAt (fun i => bayB (bs i) (br i) (bd i)) bs) n && decide ((n : Int) ≤ 8)) = _ from q1]) | (go_at_call 83; refine (spec_l16Castings_calls B n2 c2 cs cr cd ct cf w1 (H2.out.below hb1 (Nat.le_refl _)) hcs (by unfold maxLen; omega)).mono ?_; rintro e w2 ⟨rfl, hb2⟩; have hb3 := hb1.trans (hb2.mono hb1.size); rw [show (allB (goodAt (fun i => castB (cs i) (cr i) (cd i) (ct i) (cf i)) cs) n2 && decide ((n2 : Int) ≤ 12)) = _ from q2]) | (go_at_call 84; refine (l16Check_calls A n c bs br bd B n2 c2 cs cr cd ct cf P n3 cp p w2 (H.out.below hb3 (Nat.le_refl _)) (H2.out.below hb3 (Nat.le_refl _)) (H3.out.keep hb3) HO.out hn hn2 hn3).mono ?_; rintro e w4 ⟨rfl, nd, rfl⟩; have hb5 := below_drewN hb3 nd; rw [q3]) | (go_at_call 85; refine (in_calls _ _ _ _).mono ?_; rintro e w1 ⟨rfl, rfl⟩; first | rw [q4] | rw [q5]))
            clear q1 q2 q3 q4 q5 hb1 hb2 hb3
            go_loopw [12, 4] (fun ch x wr => ∃ (b : Bool) (v : Int), ch = .bool b ∧ x = .int .i64 v ∧ Hid (FInv p ct cf bay n2 R v b) ∧ Below w.heap.size w wr) (fun ch x _ => (1054361 - intOf x).toNat + bitOf ch)
            case atStart => exact ⟨true, t, rfl, rfl, HS, hb5⟩
            case round =>
              obtain ⟨b, v, rfl, rfl, hf, hbr⟩ := hrel
              clear hb5 HS
              cases b
              · go_wp2
                go_ret2
                exact ⟨by rw [hf.out.2.2.1 rfl]; rfl, hbr⟩
              · go_wp2
                go_loopw [13, 12, 4] (fun i ch x wr => ∃ (k : Nat) (b : Bool) (x' : Int), k ≤ n2 ∧ i = .int .i64 k ∧ ch = .bool b ∧ x = .int .i64 x' ∧ Hid (GInv p ct cf bay n2 R v x' b k) ∧ Below w.heap.size w wr) (fun i _ _ _ => n2 - (intOf i).toNat)
                case atStart => exact ⟨0, false, v, by omega, rfl, rfl, rfl, Lib.hid (GInv.start hf.out.2.1), hbr⟩
                case round =>
                  clear hbr
                  obtain ⟨k, b, x', hk, rfl, rfl, rfl, hg, hbr⟩ := hrel
                  by_cases hlt : k < n2
                  · have hk3 : k < n3 := by have := H32.out; omega
                    obtain ⟨b3, o3, rfl, hrow3⟩ := H4.out (by omega)
                    obtain ⟨b2, o2, rfl, hrow2⟩ := H2.out (by omega)
                    have c0 : wr.cell? ⟨b3, o3 + k, none⟩ = some (.int .i64 (p k)) := (hbr.cell (p := ⟨b3, o3 + k, none⟩) (cell_lt (hrow3 k hlt))).trans (hrow3 k hlt)
                    obtain ⟨u0, u1, u2, u3, u4⟩ := (hrow2 k hlt).below hbr (Nat.le_refl _)
                    obtain ⟨a0, a1⟩ := HO.out k hlt
                    have HR3 := Lib.hid hrow3
                    have HR2 := Lib.hid hrow2
                    clear hrow3 hrow2
                    have HCK := Lib.hid (show ∀ q, Calls Try.prog 86 #[.pointer (some ⟨b2, o2 + k * 5, none⟩)] (wr.drewN q) (fun e w' => e = .returned (.int .i64 (strip (ct k) (cf k))) ∧ ∃ q2, w' = (wr.drewN q).drewN q2) from fun q => sstrip_calls b2 (o2 + k * 5) _ _ (wr.drewN q) a0.1 a0.2 a1.1 a1.2 u3 u4)
                    have HCW := Lib.hid (show Calls Try.prog 86 #[.pointer (some ⟨b2, o2 + k * 5, none⟩)] wr (fun e w' => e = .returned (.int .i64 (strip (ct k) (cf k))) ∧ ∃ q2, w' = wr.drewN q2) from sstrip_calls b2 (o2 + k * 5) _ _ wr a0.1 a0.2 a1.1 a1.2 u3 u4)
                    cases q7 : (p k == bay)
                    · have hh : Hid (hitB p ct cf bay x' k = false) := Lib.hid (by simp [hitB, q7])
                      go_wp2_with (first | (go_at_call 86; with_reducible refine (HCW.out).mono ?_; rintro e w5 ⟨rfl, qq, rfl⟩) | (go_at_call 86; with_reducible refine (HCK.out _).mono ?_; rintro e w6 ⟨rfl, qq, rfl⟩))
                      go_roundw
                      case rel => exact ⟨k + 1, b, x', by omega, by go_num, rfl, rfl, Lib.hid (hg.out.miss hh.out), by first | exact hbr | exact below_drewN hbr _⟩
                      case measure => simp [intOf]; omega
                    · cases p1 : decide (cf k ≤ x')
                      · have hh : Hid (hitB p ct cf bay x' k = false) := Lib.hid (by have := of_decide_eq_false p1; simp only [hitB, inB_no (show x' < cf k ∨ strip (ct k) (cf k) - 1 < x' by omega), Bool.and_false])
                        go_wp2_with (first | (go_at_call 86; with_reducible refine (HCW.out).mono ?_; rintro e w5 ⟨rfl, qq, rfl⟩) | (go_at_call 86; with_reducible refine (HCK.out _).mono ?_; rintro e w6 ⟨rfl, qq, rfl⟩))
                        go_roundw
                        case rel => exact ⟨k + 1, b, x', by omega, by go_num, rfl, rfl, Lib.hid (hg.out.miss hh.out), by first | exact hbr | exact below_drewN hbr _⟩
                        case measure => simp [intOf]; omega
                      · cases p2 : decide (x' < strip (ct k) (cf k))
                        · have hh : Hid (hitB p ct cf bay x' k = false) := Lib.hid (by have := of_decide_eq_false p2; simp only [hitB, inB_no (show x' < cf k ∨ strip (ct k) (cf k) - 1 < x' by omega), Bool.and_false])
                          go_wp2_with (first | (go_at_call 86; with_reducible refine (HCW.out).mono ?_; rintro e w5 ⟨rfl, qq, rfl⟩) | (go_at_call 86; with_reducible refine (HCK.out _).mono ?_; rintro e w6 ⟨rfl, qq, rfl⟩))
                          go_roundw
                          case rel => exact ⟨k + 1, b, x', by omega, by go_num, rfl, rfl, Lib.hid (hg.out.miss hh.out), by first | exact hbr | exact below_drewN hbr _⟩
                          case measure => simp [intOf]; omega
                        · have hh : Hid (hitB p ct cf bay x' k = true) := Lib.hid (by have r1 := of_decide_eq_true p1; have r2 := of_decide_eq_true p2; simp only [hitB, q7, inB_yes r1 (show x' ≤ strip (ct k) (cf k) - 1 by omega)]; rfl)
                          go_wp2_with (first | (go_at_call 86; with_reducible refine (HCW.out).mono ?_; rintro e w5 ⟨rfl, qq, rfl⟩) | (go_at_call 86; with_reducible refine (HCK.out _).mono ?_; rintro e w6 ⟨rfl, qq, rfl⟩))
                          go_roundw
                          case rel => exact ⟨k + 1, true, strip (ct k) (cf k), by omega, by go_num, rfl, rfl, Lib.hid (hg.out.hit HO.out hlt hh.out), below_drewN hbr _⟩
                          case measure => simp [intOf]; omega
                  · obtain rfl : k = n2 := by omega
                    have HD := Lib.hid (hg.out.done hf.out)
                    go_wp2
                    go_roundw
                    case rel => exact ⟨b, x', rfl, rfl, Lib.hid HD.out.1, hbr⟩
                    case measure =>
                      have := HD.out.2
                      cases b <;> simp [intOf, bitOf] at this ⊢ <;> omega
end Go.Proofs.Ytaanlkdpconfiaa
