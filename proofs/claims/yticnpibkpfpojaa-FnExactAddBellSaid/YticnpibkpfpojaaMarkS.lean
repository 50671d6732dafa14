/- What mark and held do with a list of shares of the call's own: every mark is found again. -/
import Derived.Test.YticnpibkpfpojaaStrs
import Derived.Test.YticnpibkpfpojaaBellOp
import Derived.Test.YticnpibkpfpojaaShareM
namespace Go.Proofs.Yticnpibkpfpojaa
set_option linter.unusedVariables false
set_option linter.unusedSimpArgs false
open Go.RowKit

/-- the texts and the numbers of the marks from k on -/
noncomputable def mkSs (k : Nat) : Nat → ByteArray := fun i => mkT (k + 2 * i)
def mkSm (k : Nat) : Nat → Int := fun i => ((k + 2 * i + 1 : Nat) : Int)
theorem shareArr_mark {arr : Array Value} {n j : Nat} {ss : Nat → ByteArray} {ms : Nat → Int} (h : ShareArr arr j ss ms) (hs : n * 2 ≤ arr.size) (hj : j < n) : ShareArr ((arr.setIfInBounds (j * 2) (.string (ss j))).setIfInBounds (j * 2 + 1) (.int .i64 (ms j))) (j + 1) ss ms := by
  intro i hi
  rcases Nat.lt_or_ge i j with h1 | h1
  · have h2 := h i h1
    refine ⟨?_, ?_⟩
    all_goals simp (disch := omega) only [Array.getElem?_setIfInBounds_ne]
    · exact h2.1
    · exact h2.2
  · obtain rfl : i = j := by omega
    refine ⟨?_, ?_⟩
    · rw [Array.getElem?_setIfInBounds_ne (by omega), Array.getElem?_setIfInBounds_self_of_lt (by omega)]
    · rw [Array.getElem?_setIfInBounds_self_of_lt (by (try simp); omega)]
set_option maxRecDepth 20000 in
set_option maxHeartbeats 4000000 in
theorem markShareS_calls (A : Option Addr) (n c G : Nat) (ss : Nat → ByteArray) (ms : Nat → Int) (k : Nat) (w : World) (h : ShareOwn w A n ss ms G) (hn : n ≤ 1048576) (h1 : 1 ≤ k) (hk : k ≤ 1000000000) :
    Calls Try.prog 43 #[.slice A n c, .int .i64 k] w fun e w' => e = .returned (.int .i64 ((k + 2 * n : Nat) : Int)) ∧ ShareOwn w' A n (mkSs k) (mkSm k) G ∧ w.grownBy w' (some G) := by
  have H := Lib.hid h
  clear h
  go_enter Try.func43, Try.ntmps43
  go_wp2
  go_loopw [1, 5] (fun q i wr => ∃ j : Nat, j ≤ n ∧ q = .int .i64 ((k + 2 * j : Nat) : Int) ∧ i = .int .i64 j ∧ Hid (w.grownBy wr (some G)) ∧ Hid (0 < n → A = some ⟨G, 0, none⟩ ∧ ∃ arr : Array Value, Blk wr G 81 arr ∧ n * 2 ≤ arr.size ∧ ShareArr arr j (mkSs k) (mkSm k))) (fun _ i _ => n - (intOf i).toNat)
  case atStart => exact ⟨0, by omega, rfl, rfl, Lib.hid (World.grownBy.refl _ _), Lib.hid fun hn => by
    obtain ⟨hA, arr, hb, hs, ha⟩ := H.out hn
    exact ⟨hA, arr, hb, hs, fun i hi => absurd hi (Nat.not_lt_zero i)⟩⟩
  case round =>
    obtain ⟨j, hj, rfl, rfl, hg, harr⟩ := hrel
    by_cases hlt : j < n
    · obtain ⟨rfl, arr, hb, hs, ha⟩ := harr.out (by omega)
      obtain ⟨x0, hx0⟩ := arr_some (arr := arr) (j := j * 2) (by omega)
      obtain ⟨x1, hx1⟩ := arr_some (arr := arr) (j := j * 2 + 1) (by omega)
      have HX0 := Lib.hid hx0
      have HX1 := Lib.hid hx1
      have HB := Lib.hid hb
      have HA := Lib.hid ha
      have HS := Lib.hid hs
      obtain ⟨M, hM⟩ : ∃ M : Nat, M = k + 2 * j := ⟨_, rfl⟩
      rw [← hM]
      have hMb : 1 ≤ M ∧ M ≤ 4000000000 := by omega
      have HM := Lib.hid hM
      obtain ⟨T, hT⟩ : ∃ T, T = mkT M := ⟨_, rfl⟩
      have HTX := Lib.hid (fun W => markTx_calls M W hMb.1 hMb.2)
      rw [← hT] at HTX
      have HT := Lib.hid hT
      clear hb ha hs hM hx0 hx1 hT
      go_wp2_with (go_at_call 41; with_reducible refine (HTX.out _).mono ?_; rintro e w1 ⟨rfl, hb⟩; have hb1 := HB.out.keep hb; have y0 := (hb1.cell (j * 2)).trans HX0.out; have y1 := (hb1.cell (j * 2 + 1)).trans HX1.out; have f0 := hb1.frozen; have HB1 := Lib.hid hb1; have HG1 := Lib.hid (gb_trans hg.out (gb_below hb)); clear hb1 hb)
      go_roundw
      case rel =>
        refine ⟨j + 1, by omega, by have := HM.out; go_num, by go_num, Lib.hid ?_, Lib.hid ?_⟩
        · exact gb_set (gb_set HG1.out (by simp) _) (by simp) _
        · intro _
          refine ⟨by first | rfl | trivial, _, (HB1.out.set_ (j * 2) _).set_ (j * 2 + 1) _, by simpa using HS.out, ?_⟩
          have e1 : T = mkSs k j := by rw [HT.out, HM.out]; rfl
          have e2 : (((M : Nat) : Int) + 1) = mkSm k j := by rw [HM.out]; unfold mkSm; omega
          rw [e1, e2]
          exact shareArr_mark HA.out HS.out hlt
      case measure => simp [intOf]; omega
    · obtain rfl : j = n := by omega
      go_wp2
      go_ret
      exact ⟨rfl, harr.out, hg.out⟩
set_option maxRecDepth 20000 in
set_option maxHeartbeats 4000000 in
theorem heldShareS_calls (A : Option Addr) (n c k : Nat) (w : World) (h : ShareRow w A n (mkSs k) (mkSm k)) (hn : n ≤ 1048576) (h1 : 1 ≤ k) (hk : k ≤ 1000000000) :
    Calls Try.prog 44 #[.slice A n c, .int .i64 k] w fun e w' => e = .returned (.int .i64 ((k + 2 * n : Nat) : Int)) ∧ Below w.heap.size w w' := by
  have H := Lib.hid h
  clear h
  go_enter Try.func44, Try.ntmps44
  go_wp2
  go_loopw [1, 5] (fun q i wr => ∃ j : Nat, j ≤ n ∧ q = .int .i64 ((k + 2 * j : Nat) : Int) ∧ i = .int .i64 j ∧ Below w.heap.size w wr) (fun _ i _ => n - (intOf i).toNat)
  case atStart => exact ⟨0, by omega, rfl, rfl, Below.refl _ _⟩
  case round =>
    obtain ⟨j, hj, rfl, rfl, hbr⟩ := hrel
    by_cases hlt : j < n
    · obtain ⟨b, o, rfl, hrow⟩ := H.out (by omega)
      obtain ⟨c0, c1⟩ := (hrow j hlt).below hbr (Nat.le_refl _)
      obtain ⟨M, hM⟩ : ∃ M : Nat, M = k + 2 * j := ⟨_, rfl⟩
      have e1 : mkSs k j = mkT M := by rw [hM]; rfl
      have e2 : mkSm k j = (M : Int) + 1 := by rw [hM]; unfold mkSm; omega
      rw [e1] at c0
      rw [e2] at c1
      rw [← hM]
      have hMb : 1 ≤ M ∧ M ≤ 4000000000 := by omega
      obtain ⟨T, hT⟩ : ∃ T, T = mkT M := ⟨_, rfl⟩
      have HTX := Lib.hid (fun W => markTx_calls M W hMb.1 hMb.2)
      rw [← hT] at HTX c0
      have HM := Lib.hid hM
      have HR := Lib.hid hrow
      clear hM hrow hT e1 e2
      go_wp2_with fail
      refine wp_gen (fun W0 hW0 => ?_)
      have s0_ : Below w.heap.size w W0 := by rw [hW0]; exact hbr
      have s1_ : W0.cell? ⟨b, o + j * 2, none⟩ = some (.string T) := by rw [hW0]; exact c0
      have s2_ : W0.cell? ⟨b, o + j * 2 + 1, none⟩ = some (.int .i64 ((M : Int) + 1)) := by rw [hW0]; exact c1
      clear c0 c1
      clear hW0
      refine wp_region_held_drew (S := fun w' => Below w.heap.size w w' ∧ w'.cell? ⟨b, o + j * 2, none⟩ = some (.string T) ∧ w'.cell? ⟨b, o + j * 2 + 1, none⟩ = some (.int .i64 ((M : Int) + 1))) (by kernel_rfl) ?_ (fun hHeld => ?_)
      · exact ⟨s0_.drew, s1_, s2_⟩
      clear s0_ s1_ s2_
      refine take_yes (i := 0) (d := 12) (v := ?_) _ rfl rfl (by kernel_rfl) (by kernel_rfl) (by kernel_rfl) (fun _ _ _ _ h => h) (by rfl) ?_ (by assumption) ?_
      rotate_left 1
      · ((intro w hSw; (try dsimp only at hSw); go_simp) <;> (try with_reducible rfl))
      (try simp only [Act.put, List.setIfInBounds_toArray, List.set_cons_zero, List.set_cons_succ])
      refine take_yes (i := 1) (d := 13) (v := ?_) _ rfl rfl (by kernel_rfl) (by kernel_rfl) (by kernel_rfl) (fun _ _ _ _ h => h) (by rfl) ?_ (by assumption) ?_
      rotate_left 1
      · ((intro w hSw; (try dsimp only at hSw); go_simp) <;> (try with_reducible rfl))
      (try simp only [Act.put, List.setIfInBounds_toArray, List.set_cons_zero, List.set_cons_succ])
      refine take_yes (i := 2) (d := 14) (v := ?_) _ rfl rfl (by kernel_rfl) (by kernel_rfl) (by kernel_rfl) (fun _ _ _ _ h => h) (by rfl) ?_ (by assumption) ?_
      rotate_left 1
      · ((intro w hSw; (try dsimp only at hSw); go_simp) <;> (try with_reducible rfl))
      (try simp only [Act.put, List.setIfInBounds_toArray, List.set_cons_zero, List.set_cons_succ])
      refine take_yes (i := 3) (d := 15) (v := ?_) _ rfl rfl (by kernel_rfl) (by kernel_rfl) (by kernel_rfl) (fun _ _ _ _ h => h) (by rfl) ?_ (by assumption) ?_
      rotate_left 1
      · ((intro w hSw; (try dsimp only at hSw); go_simp) <;> (try with_reducible rfl))
      (try simp only [Act.put, List.setIfInBounds_toArray, List.set_cons_zero, List.set_cons_succ])
      refine take_yes (i := 4) (d := 16) (v := ?_) _ rfl rfl (by kernel_rfl) (by kernel_rfl) (by kernel_rfl) (fun _ _ _ _ h => h) (by rfl) ?_ (by assumption) ?_
      rotate_left 1
      · ((intro w hSw; (try dsimp only at hSw); go_simp) <;> (try with_reducible rfl))
      (try simp only [Act.put, List.setIfInBounds_toArray, List.set_cons_zero, List.set_cons_succ])
      refine take_yes (i := 5) (d := 17) (v := ?_) _ rfl rfl (by kernel_rfl) (by kernel_rfl) (by kernel_rfl) (fun _ _ _ _ h => h) (by rfl) ?_ (by assumption) ?_
      rotate_left 1
      · ((intro w hSw; (try dsimp only at hSw); go_simp) <;> (try with_reducible rfl))
      (try simp only [Act.put, List.setIfInBounds_toArray, List.set_cons_zero, List.set_cons_succ])
      (refine wpAnyH_ready (rs := [6]) (by kernel_rfl) (by simp) ?_; refine AllReadyH.cons rfl (fun K hK => ?_) AllReadyH.nil; go_simp; go_at_call 41; refine (HTX.out _).mono ?_; rintro e wd ⟨rfl, hb⟩; refine hK.out _ _ (by obtain ⟨x0_, x1_, x2_⟩ := hHeld; exact ⟨x0_.trans (hb.mono x0_.size), cell_keep hb x1_, cell_keep hb x2_⟩) (fun hHeld2 => ?_); clear hK K hHeld hb; have hHeld := hHeld2; clear hHeld2; (try simp only [Act.put, List.setIfInBounds_toArray, List.set_cons_zero, List.set_cons_succ]))
      refine take_yes (i := 7) (d := 19) (v := ?_) _ rfl rfl (by kernel_rfl) (by kernel_rfl) (by kernel_rfl) (fun _ _ _ _ h => h) (by rfl) ?_ (by assumption) ?_
      rotate_left 1
      · ((intro w hSw; (try dsimp only at hSw); go_simp) <;> (try with_reducible rfl))
      (try simp only [Act.put, List.setIfInBounds_toArray, List.set_cons_zero, List.set_cons_succ])
      refine wpAnyH_done (by kernel_rfl) ?_ _
      obtain ⟨z0, z1, z2⟩ := hHeld
      go_wp2
      go_roundw
      case rel => exact ⟨j + 1, by omega, by have := HM.out; go_num, by go_num, z0⟩
      case measure => simp [intOf]; omega
    · obtain rfl : j = n := by omega
      go_wp2
      go_ret
      exact ⟨rfl, hbr⟩
set_option maxHeartbeats 1000000 in
theorem markBell_calls (s : ByteArray) (no ma fe : Int) (A : Option Addr) (n c G : Nat) (ss : Nat → ByteArray) (ms : Nat → Int) (k : Nat) (w : World) (h : ShareOwn w A n ss ms G) (hn : n ≤ 1048576) (h1 : 1 ≤ k) (hk : k ≤ 1000000000) :
    Calls Try.prog 17 #[.agg #[.string s, .int .i64 no, .int .i64 ma, .int .i64 fe, .slice A n c], .int .i64 k] w fun e w' => e = .returned (.int .i64 ((k + 2 * n : Nat) : Int)) ∧ ShareOwn w' A n (mkSs k) (mkSm k) G ∧ w.grownBy w' (some G) := by
  have hal := (Below.refl w.heap.size w).alloc (Nat.le_refl _) (.cells #[.string s, .int .i64 no, .int .i64 ma, .int .i64 fe, .slice A n c] 38)
  have H := Lib.hid (h.keep hal)
  have HAL := Lib.hid hal
  clear h hal
  go_enter Try.func17, Try.ntmps17
  go_wp2_with (go_at_call 43; refine (markShareS_calls A n c G ss ms k _ H.out hn h1 hk).mono ?_; rintro e w1 ⟨rfl, ho, hg⟩; have HO := Lib.hid ho; have HG := Lib.hid (gb_trans (gb_below HAL.out) hg); clear ho hg)
  go_ret
  exact ⟨rfl, HO.out, HG.out⟩
end Go.Proofs.Yticnpibkpfpojaa
