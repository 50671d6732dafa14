/- FnCooling: a bell never becomes warmer, reaches a temperature first when it is told, and a thicker one cools more slowly: for every pair of codes. No further condition. -/
import Derived.Test.YtkbjampfmcegpaaRows
import Derived.Test.YtkbjampfmcegpaaFrame
import Derived.Test.YtkbjampfmcegpaaCoolLaw
import Derived.Test.YtkbjampfmcegpaaDraw
namespace Go.Proofs.Ytkbjampfmcegpaa.FnCooling
set_option linter.unusedVariables false
open Go.ChangeShapes Go.WideShapes Go.ChangeAt Go.RowKit Go.Deep
open Go.ChangeMaps (open_string shut_string)
theorem tempOk (k t : Int) (w : World) (k0 : 1 ≤ k) (k1 : k ≤ 30000) (t0 : 0 ≤ t) (t1 : t ≤ 1000000) :
    Calls Try.prog 7 #[.int .i64 k, .int .i64 t] w fun e w' => e = .returned (.tuple #[.int .i64 (tp k t), .int .i64 0]) ∧ ∃ n, w' = w.drewN n := by
  have h := TemperatureAt_calls k t w
  rwa [show taV k t = tp k t by simp [taV, inB_yes k0 k1, inB_yes t0 t1], show taC k t = 0 by simp [taC, inB_yes k0 k1, inB_yes t0 t1]] at h
theorem tempNo (k t : Int) (w : World) (h0 : (k < 1 ∨ 30000 < k) ∨ t < 0 ∨ 1000000 < t) :
    Calls Try.prog 7 #[.int .i64 k, .int .i64 t] w fun e w' => e = .returned (.tuple #[.int .i64 0, .int .i64 2]) ∧ ∃ n, w' = w.drewN n := by
  have h := TemperatureAt_calls k t w
  rcases h0 with h0 | h0
  · rwa [show taV k t = 0 by simp [taV, inB_no h0], show taC k t = 2 by simp [taC, inB_no h0]] at h
  · rwa [show taV k t = 0 by simp [taV, inB_no h0], show taC k t = 2 by simp [taC, inB_no h0]] at h
theorem timeOk (k t : Int) (w : World) (k0 : 1 ≤ k) (k1 : k ≤ 30000) (t0 : 20 ≤ t) (t1 : t ≤ 1150) :
    Calls Try.prog 11 #[.int .i64 k, .int .i64 t] w fun e w' => e = .returned (.tuple #[.int .i64 (tt k t), .int .i64 0]) ∧ ∃ n, w' = w.drewN n := by
  have h := TimeTo_calls k t w
  rwa [show toV k t = tt k t by simp [toV, inB_yes k0 k1, inB_yes t0 t1], show toC k t = 0 by simp [toC, inB_yes k0 k1, inB_yes t0 t1]] at h
theorem timeNo (k t : Int) (w : World) (h0 : (k < 1 ∨ 30000 < k) ∨ t < 20 ∨ 1150 < t) :
    Calls Try.prog 11 #[.int .i64 k, .int .i64 t] w fun e w' => e = .returned (.tuple #[.int .i64 0, .int .i64 2]) ∧ ∃ n, w' = w.drewN n := by
  have h := TimeTo_calls k t w
  rcases h0 with h0 | h0
  · rwa [show toV k t = 0 by simp [toV, inB_no h0], show toC k t = 2 by simp [toC, inB_no h0]] at h
  · rwa [show toV k t = 0 by simp [toV, inB_no h0], show toC k t = 2 by simp [toC, inB_no h0]] at h
set_option maxHeartbeats 400000 in
theorem slower_calls (k t : Int) (w : World) (k0 : 1 ≤ k) (k1 : k < 30000) (t0 : 0 ≤ t) (t1 : t ≤ 1000000) :
    Calls Try.prog 9 #[.int .i64 k, .int .i64 t, .int .i64 (tp k t)] w fun e w' => e = .returned (.bool false) ∧ ∃ n, w' = w.drewN n := by
  have h1 := tp_slower k0 (by omega) (show k ≤ k + 1 by omega) t0
  obtain ⟨h2, h3⟩ := tp_bd k0 (by omega) t0
  go_enter Try.func9, Try.ntmps9
  go_wp2_with (go_at_call 7; refine (tempOk _ _ _ (by omega) (by omega) (by omega) (by omega)).mono ?_; rintro e wt ⟨rfl, nt, rfl⟩)
  go_ret
  exact ⟨ret_bool (by simp only [decide_eq_false_iff_not]; omega), _, rfl⟩
set_option maxHeartbeats 4000000 in
theorem walk (A : Option Addr) (n c : Nat) (B : Option Addr) (nb cb : Nat) (w : World) (hA : Code8 w A n) (hn : n ≤ maxLen) (hB : Code8 w B nb) (hnb : nb ≤ maxLen) :
    Calls Try.prog 3 #[.slice A n c, .slice B nb cb] w fun e w' => e = .returned (.bool true) ∧ Below w.heap.size w w' := by
  by_cases hl : 1048576 < n
  · go_enter Try.func3, Try.ntmps3
    go_wp2_with (go_at_call 5; refine (b10Long_calls _ _ _ _ (by assumption)).mono ?_; rintro e w1 ⟨rfl, rfl⟩)
    go_ret
    exact ⟨rfl, Below.refl _ _⟩
  · by_cases hl2 : 1048576 < nb
    · go_enter Try.func3, Try.ntmps3
      go_wp2_with (go_at_call 5; refine (b10Long_calls _ _ _ _ (by assumption)).mono ?_; rintro e w1 ⟨rfl, rfl⟩)
      go_ret
      exact ⟨rfl, Below.refl _ _⟩
    · have H1 : decide (1048576 < n) = false := decide_eq_false hl
      have H2 : decide (1048576 < nb) = false := decide_eq_false hl2
      have HA := Lib.hid hA
      clear hA
      go_enter Try.func3, Try.ntmps3
      go_wp2_with (go_at_call 5; refine (b10Long_calls _ _ _ _ (by assumption)).mono ?_; rintro e w1 ⟨rfl, rfl⟩)
      go_at_call 6
      refine (drawTemperatureAt_calls _ _ _ _ HA.out hn).mono ?_
      rintro e w1 ⟨⟨k, t, ⟨k0, k1⟩, ⟨t0, t1⟩, rfl⟩, hb1⟩
      have HB := Lib.hid hB
      have hb2 := Lib.hid hb1
      clear hB hb1 H1 H2
      by_cases hbad : (k < 1 ∨ 30000 < k) ∨ t < 0 ∨ 1000000 < t
      · go_wp2_with (go_at_call 7; refine (tempNo _ _ _ (by omega)).mono ?_; rintro e wt ⟨rfl, nt, rfl⟩)
        go_at_call 10
        refine (drawTimeTo_calls _ _ _ _ (HB.out.below (below_drewN hb2.out _) (Nat.le_refl _)) hnb).mono ?_
        rintro e w2 ⟨⟨wall, te, ⟨d0, d1⟩, ⟨e0, e1⟩, rfl⟩, hb4⟩
        have hb3 := Lib.hid ((below_drewN hb2.out _).trans (hb4.mono (below_drewN hb2.out _).size))
        clear hb4 HB hb2 hbad
        by_cases hbad : (wall < 1 ∨ 30000 < wall) ∨ te < 20 ∨ 1150 < te
        · go_wp2_with (go_at_call 11; refine (timeNo _ _ _ hbad).mono ?_; rintro e wt ⟨rfl, nt, rfl⟩)
          go_ret
          exact ⟨rfl, below_drewN hb3.out _⟩
        · obtain ⟨g1, g2⟩ := tt_least (k := wall) (g := te) (by omega) (by omega) (by omega)
          obtain ⟨g3, g4⟩ := tt_bd te (show 1 ≤ wall by omega) (by omega)
          have G2 := Lib.hid g2
          clear g2
          by_cases hz : tt wall te = 0
          · rw [hz] at g1
            clear g3 g4 G2
            go_wp2_with (first | (go_at_call 11; refine (timeOk _ _ _ (by omega) (by omega) (by omega) (by omega)).mono ?_; rintro e wt ⟨rfl, nt, rfl⟩) | (go_at_call 7; refine (tempOk _ _ _ (by omega) (by omega) (by omega) (by omega)).mono ?_; rintro e wt ⟨rfl, nt, rfl⟩))
            go_ret
            exact ⟨rfl, below_drewN hb3.out _⟩
          · have g5 := G2.out (by omega)
            go_wp2_with (first | (go_at_call 11; refine (timeOk _ _ _ (by omega) (by omega) (by omega) (by omega)).mono ?_; rintro e wt ⟨rfl, nt, rfl⟩) | (go_at_call 7; refine (tempOk _ _ _ (by omega) (by omega) (by omega) (by omega)).mono ?_; rintro e wt ⟨rfl, nt, rfl⟩))
            go_ret
            exact ⟨rfl, below_drewN hb3.out _⟩
      · obtain ⟨q1, q2⟩ := tp_bd (k := k) (t := t) (by omega) (by omega) (by omega)
        go_wp2_with (go_at_call 7; refine (tempOk _ _ _ (by omega) (by omega) (by omega) (by omega)).mono ?_; rintro e wt ⟨rfl, nt, rfl⟩)
        go_at_call 8
        refine (b10Wide_calls _ _ _ _ _ _ (HB.out.below (below_drewN hb2.out nt) (Nat.le_refl _)) hnb (by omega) (by omega) (by omega) (by omega)).mono ?_
        rintro e w3 ⟨⟨v, ⟨v0, v1⟩, rfl⟩, rfl⟩
        have q3 := tp_anti (k := k) (t := t) (t2 := t + v) (by omega) (by omega) (by omega) (by omega)
        by_cases hlate : 1000000 < t + v
        · by_cases hk : k < 30000
          · go_wp2_with (first | (go_at_call 7; refine (tempNo _ _ _ (by omega)).mono ?_; rintro e wt ⟨rfl, nt, rfl⟩) | (go_at_call 9; refine (slower_calls _ _ _ (by omega) (by omega) (by omega) (by omega)).mono ?_; rintro e wt ⟨rfl, ns, rfl⟩))
            go_at_call 10
            refine (drawTimeTo_calls _ _ _ _ (HB.out.below (below_drewN hb2.out _) (Nat.le_refl _)) hnb).mono ?_
            rintro e w2 ⟨⟨wall, te, ⟨d0, d1⟩, ⟨e0, e1⟩, rfl⟩, hb4⟩
            have hb3 := Lib.hid ((below_drewN hb2.out _).trans (hb4.mono (below_drewN hb2.out _).size))
            clear hb4 HB hb2 hbad
            by_cases hbad : (wall < 1 ∨ 30000 < wall) ∨ te < 20 ∨ 1150 < te
            · go_wp2_with (go_at_call 11; refine (timeNo _ _ _ hbad).mono ?_; rintro e wt ⟨rfl, nt, rfl⟩)
              go_ret
              exact ⟨rfl, below_drewN hb3.out _⟩
            · obtain ⟨g1, g2⟩ := tt_least (k := wall) (g := te) (by omega) (by omega) (by omega)
              obtain ⟨g3, g4⟩ := tt_bd te (show 1 ≤ wall by omega) (by omega)
              have G2 := Lib.hid g2
              clear g2
              by_cases hz : tt wall te = 0
              · rw [hz] at g1
                clear g3 g4 G2
                go_wp2_with (first | (go_at_call 11; refine (timeOk _ _ _ (by omega) (by omega) (by omega) (by omega)).mono ?_; rintro e wt ⟨rfl, nt, rfl⟩) | (go_at_call 7; refine (tempOk _ _ _ (by omega) (by omega) (by omega) (by omega)).mono ?_; rintro e wt ⟨rfl, nt, rfl⟩))
                go_ret
                exact ⟨rfl, below_drewN hb3.out _⟩
              · have g5 := G2.out (by omega)
                go_wp2_with (first | (go_at_call 11; refine (timeOk _ _ _ (by omega) (by omega) (by omega) (by omega)).mono ?_; rintro e wt ⟨rfl, nt, rfl⟩) | (go_at_call 7; refine (tempOk _ _ _ (by omega) (by omega) (by omega) (by omega)).mono ?_; rintro e wt ⟨rfl, nt, rfl⟩))
                go_ret
                exact ⟨rfl, below_drewN hb3.out _⟩
          · go_wp2_with (first | (go_at_call 7; refine (tempNo _ _ _ (by omega)).mono ?_; rintro e wt ⟨rfl, nt, rfl⟩) | (go_at_call 9; refine (slower_calls _ _ _ (by omega) (by omega) (by omega) (by omega)).mono ?_; rintro e wt ⟨rfl, ns, rfl⟩))
            go_at_call 10
            refine (drawTimeTo_calls _ _ _ _ (HB.out.below (below_drewN hb2.out _) (Nat.le_refl _)) hnb).mono ?_
            rintro e w2 ⟨⟨wall, te, ⟨d0, d1⟩, ⟨e0, e1⟩, rfl⟩, hb4⟩
            have hb3 := Lib.hid ((below_drewN hb2.out _).trans (hb4.mono (below_drewN hb2.out _).size))
            clear hb4 HB hb2 hbad
            by_cases hbad : (wall < 1 ∨ 30000 < wall) ∨ te < 20 ∨ 1150 < te
            · go_wp2_with (go_at_call 11; refine (timeNo _ _ _ hbad).mono ?_; rintro e wt ⟨rfl, nt, rfl⟩)
              go_ret
              exact ⟨rfl, below_drewN hb3.out _⟩
            · obtain ⟨g1, g2⟩ := tt_least (k := wall) (g := te) (by omega) (by omega) (by omega)
              obtain ⟨g3, g4⟩ := tt_bd te (show 1 ≤ wall by omega) (by omega)
              have G2 := Lib.hid g2
              clear g2
              by_cases hz : tt wall te = 0
              · rw [hz] at g1
                clear g3 g4 G2
                go_wp2_with (first | (go_at_call 11; refine (timeOk _ _ _ (by omega) (by omega) (by omega) (by omega)).mono ?_; rintro e wt ⟨rfl, nt, rfl⟩) | (go_at_call 7; refine (tempOk _ _ _ (by omega) (by omega) (by omega) (by omega)).mono ?_; rintro e wt ⟨rfl, nt, rfl⟩))
                go_ret
                exact ⟨rfl, below_drewN hb3.out _⟩
              · have g5 := G2.out (by omega)
                go_wp2_with (first | (go_at_call 11; refine (timeOk _ _ _ (by omega) (by omega) (by omega) (by omega)).mono ?_; rintro e wt ⟨rfl, nt, rfl⟩) | (go_at_call 7; refine (tempOk _ _ _ (by omega) (by omega) (by omega) (by omega)).mono ?_; rintro e wt ⟨rfl, nt, rfl⟩))
                go_ret
                exact ⟨rfl, below_drewN hb3.out _⟩
        · by_cases hk : k < 30000
          · go_wp2_with (first | (go_at_call 7; refine (tempOk _ _ _ (by omega) (by omega) (by omega) (by omega)).mono ?_; rintro e wt ⟨rfl, nt, rfl⟩) | (go_at_call 9; refine (slower_calls _ _ _ (by omega) (by omega) (by omega) (by omega)).mono ?_; rintro e wt ⟨rfl, ns, rfl⟩))
            go_at_call 10
            refine (drawTimeTo_calls _ _ _ _ (HB.out.below (below_drewN hb2.out _) (Nat.le_refl _)) hnb).mono ?_
            rintro e w2 ⟨⟨wall, te, ⟨d0, d1⟩, ⟨e0, e1⟩, rfl⟩, hb4⟩
            have hb3 := Lib.hid ((below_drewN hb2.out _).trans (hb4.mono (below_drewN hb2.out _).size))
            clear hb4 HB hb2 hbad
            by_cases hbad : (wall < 1 ∨ 30000 < wall) ∨ te < 20 ∨ 1150 < te
            · go_wp2_with (go_at_call 11; refine (timeNo _ _ _ hbad).mono ?_; rintro e wt ⟨rfl, nt, rfl⟩)
              go_ret
              exact ⟨rfl, below_drewN hb3.out _⟩
            · obtain ⟨g1, g2⟩ := tt_least (k := wall) (g := te) (by omega) (by omega) (by omega)
              obtain ⟨g3, g4⟩ := tt_bd te (show 1 ≤ wall by omega) (by omega)
              have G2 := Lib.hid g2
              clear g2
              by_cases hz : tt wall te = 0
              · rw [hz] at g1
                clear g3 g4 G2
                go_wp2_with (first | (go_at_call 11; refine (timeOk _ _ _ (by omega) (by omega) (by omega) (by omega)).mono ?_; rintro e wt ⟨rfl, nt, rfl⟩) | (go_at_call 7; refine (tempOk _ _ _ (by omega) (by omega) (by omega) (by omega)).mono ?_; rintro e wt ⟨rfl, nt, rfl⟩))
                go_ret
                exact ⟨rfl, below_drewN hb3.out _⟩
              · have g5 := G2.out (by omega)
                go_wp2_with (first | (go_at_call 11; refine (timeOk _ _ _ (by omega) (by omega) (by omega) (by omega)).mono ?_; rintro e wt ⟨rfl, nt, rfl⟩) | (go_at_call 7; refine (tempOk _ _ _ (by omega) (by omega) (by omega) (by omega)).mono ?_; rintro e wt ⟨rfl, nt, rfl⟩))
                go_ret
                exact ⟨rfl, below_drewN hb3.out _⟩
          · go_wp2_with (first | (go_at_call 7; refine (tempOk _ _ _ (by omega) (by omega) (by omega) (by omega)).mono ?_; rintro e wt ⟨rfl, nt, rfl⟩) | (go_at_call 9; refine (slower_calls _ _ _ (by omega) (by omega) (by omega) (by omega)).mono ?_; rintro e wt ⟨rfl, ns, rfl⟩))
            go_at_call 10
            refine (drawTimeTo_calls _ _ _ _ (HB.out.below (below_drewN hb2.out _) (Nat.le_refl _)) hnb).mono ?_
            rintro e w2 ⟨⟨wall, te, ⟨d0, d1⟩, ⟨e0, e1⟩, rfl⟩, hb4⟩
            have hb3 := Lib.hid ((below_drewN hb2.out _).trans (hb4.mono (below_drewN hb2.out _).size))
            clear hb4 HB hb2 hbad
            by_cases hbad : (wall < 1 ∨ 30000 < wall) ∨ te < 20 ∨ 1150 < te
            · go_wp2_with (go_at_call 11; refine (timeNo _ _ _ hbad).mono ?_; rintro e wt ⟨rfl, nt, rfl⟩)
              go_ret
              exact ⟨rfl, below_drewN hb3.out _⟩
            · obtain ⟨g1, g2⟩ := tt_least (k := wall) (g := te) (by omega) (by omega) (by omega)
              obtain ⟨g3, g4⟩ := tt_bd te (show 1 ≤ wall by omega) (by omega)
              have G2 := Lib.hid g2
              clear g2
              by_cases hz : tt wall te = 0
              · rw [hz] at g1
                clear g3 g4 G2
                go_wp2_with (first | (go_at_call 11; refine (timeOk _ _ _ (by omega) (by omega) (by omega) (by omega)).mono ?_; rintro e wt ⟨rfl, nt, rfl⟩) | (go_at_call 7; refine (tempOk _ _ _ (by omega) (by omega) (by omega) (by omega)).mono ?_; rintro e wt ⟨rfl, nt, rfl⟩))
                go_ret
                exact ⟨rfl, below_drewN hb3.out _⟩
              · have g5 := G2.out (by omega)
                go_wp2_with (first | (go_at_call 11; refine (timeOk _ _ _ (by omega) (by omega) (by omega) (by omega)).mono ?_; rintro e wt ⟨rfl, nt, rfl⟩) | (go_at_call 7; refine (tempOk _ _ _ (by omega) (by omega) (by omega) (by omega)).mono ?_; rintro e wt ⟨rfl, nt, rfl⟩))
                go_ret
                exact ⟨rfl, below_drewN hb3.out _⟩
theorem own : ownKnob Try.prog.godebug = none := by kernel_rfl
theorem laidOut : laidOutB Try.prog = true := by kernel_rfl
set_option maxRecDepth 100000 in
theorem lifted (os : Os) (started : os.Started) (H : Type) (enc : TypeId × Value → H) :
    ReturnsInHanded {} Try.checked os 3 .any (Rows.fnCoolingSpec.pre6 enc Try.prog Try.f3 Rows.fnCoolingRow.domain false) (Rows.fnCoolingSpec.post enc Try.prog Try.f3 false true false false) := by
  refine returnsInHanded_of_change (C := Try.checked) own started (by kernel_rfl) Try.func3
    (ChangeSpec.witness6 (enc := enc) (C := Try.checked) false ⟨#[], #[.slice none 0 0, .slice none 0 0], []⟩ 8 (by kernel_rfl) (by kernel_rfl) (by kernel_rfl) (by kernel_rfl)) ?_
  intro W base args ds gs before hval0 hW hcnd _
  have hval : ∀ (j : Nat) t v, Try.f3.params[j]? = some t → args[j]? = some v → Value.okWide Try.prog W .any base t v := hval0
  have hW' := hW
  obtain ⟨p, q, hA0, hV, rfl, hfz, hnd⟩ := hW
  have hA : DataW.TrodAll enc Try.prog W 0 (fun _ => true) true Try.f3.params.toList args.toList ds p := hA0
  rw [Try.params3] at hA hval
  obtain ⟨v0, vs0, d0, ds0, p0, q0, hargs, rfl, rfl, h0, r0⟩ := trodAll_cons hA
  obtain ⟨v1, vs1, d1, ds1, p1, q1, rfl, rfl, rfl, h1, r1⟩ := trodAll_cons r0
  obtain ⟨rfl, rfl, rfl⟩ := trodAll_nil r1
  obtain rfl : args = #[v0, v1] := by cases args; simp_all
  obtain ⟨rfl, rfl⟩ := trodVars_none hV
  have k0 := h0
  have lt0 : ∀ x ∈ p0, x.block < W.heap.size := by obtain ⟨m, hm⟩ := k0; exact DataW.trod_lt m _ _ _ hm
  have k1 := h1
  have lt1 : ∀ x ∈ p1, x.block < W.heap.size := by obtain ⟨m, hm⟩ := k1; exact DataW.trod_lt m _ _ _ hm
  obtain ⟨A0, n0, m0, rfl⟩ := okWide_slice Try.underlying22 (hval 0 22 v0 rfl rfl)
  obtain ⟨fu0, hf0⟩ := h0
  obtain ⟨hr0, hn0⟩ := openBytes hf0
  obtain ⟨A1, n1, m1, rfl⟩ := okWide_slice Try.underlying22 (hval 1 22 v1 rfl rfl)
  obtain ⟨fu1, hf1⟩ := h1
  obtain ⟨hr1, hn1⟩ := openBytes hf1
  clear hA0 hval0
  refine (walk A0 n0 m0 A1 n1 m1 W hr0 hn0 hr1 hn1).mono fun e W' ⟨he, bel⟩ => ?_
  subst he
  exact ⟨_, rfl, _, _, _, [], _, [], hW', trodAll_mk1 (shut_bool Try.underlying4 _), (trodAll_cons_mk (Below.trod laidOut (by kernel_rfl) (of_decide_eq_true (by kernel_rfl)) k0 bel lt0) (trodAll_cons_mk (Below.trod laidOut (by kernel_rfl) (of_decide_eq_true (by kernel_rfl)) k1 bel lt1) trodAll_mk0)), rfl, bel.frame _, fun h => by cases h⟩
theorem proved : Rows.FnCoolingSaid :=
  OpenClaim.holds_of_wide 3 Try.f3 rfl rfl rfl rfl rfl rfl rfl ⟨rfl, rfl, rfl, rfl, rfl⟩ rfl rfl rfl rfl rfl (by kernel_rfl) Try.func3 (by kernel_rfl)
    (of_decide_eq_true (by kernel_rfl)) (by unfold Func.isWrapper; first | (rw [if_pos (by decide +kernel)]; kernel_rfl) | (rw [if_neg (by decide +kernel)]; exact ⟨rfl, rfl⟩))
    (fun os started H enc _ => lifted os started H enc)
end Go.Proofs.Ytkbjampfmcegpaa.FnCooling
