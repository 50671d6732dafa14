import Derived.Test.YticnpibkpfpojaaGreatRows
import Derived.Test.YticnpibkpfpojaaGreatFrame
import Derived.Test.YticnpibkpfpojaaGreatJRec
import Derived.Test.YticnpibkpfpojaaGreatJDrG
import Derived.Deep.DeepCutAuto
/- FnRecalls: a recall of an ingot names exactly the bells whose ingots it is one of, and every bell of a traced list has metal of existing ingots alone: for every pair of codes. No further condition. -/
namespace Go.Proofs.YticnpibkpfpojaaGreat.FnRecalls
set_option linter.unusedVariables false
open Go.ChangeShapes Go.WideShapes Go.ChangeAt Go.RowKit Go.Deep
open Go.ChangeMaps (open_string shut_string)

theorem rm_ok {f : Nat → BellV} {n : Nat} (h : rmC f n = 0) : okBells f n = true := by
  unfold rmC at h
  split at h
  · assumption
  · omega
theorem rm_len {f : Nat → BellV} {n : Nat} {id : ByteArray} (h : rmC f n = 0) : rmN f n id = (selL (fun i => hasM (f i) id) (fun i => (f i).id) n).length := by
  unfold rmN
  rw [if_pos (rm_ok h)]
set_option maxRecDepth 20000 in
set_option maxHeartbeats 16000000 in
theorem walk (A : Option Addr) (n c : Nat) (B : Option Addr) (nb cb : Nat) (w : World) (hA : Code8 w A n) (hn : n ≤ maxLen) (hB : Code8 w B nb) (hnb : nb ≤ maxLen) :
    Calls Tryz.prog 3 #[.slice A n c, .slice B nb cb] w fun e w' => e = .returned (.bool true) ∧ Below w.heap.size w w' := by
  by_cases hl : 1048576 < n
  · go_enter Tryz.func3, Tryz.ntmps3
    go_wp2_with (go_at_call 4; refine (b10Long_calls _ _ _ _ (by assumption)).mono ?_; rintro e w1 ⟨rfl, rfl⟩)
    go_ret
    exact ⟨rfl, Below.refl _ _⟩
  · by_cases hl2 : 1048576 < nb
    · go_enter Tryz.func3, Tryz.ntmps3
      go_wp2_with (go_at_call 4; refine (b10Long_calls _ _ _ _ (by assumption)).mono ?_; rintro e w1 ⟨rfl, rfl⟩)
      go_ret
      exact ⟨rfl, Below.refl _ _⟩
    · have H1 : decide (1048576 < n) = false := decide_eq_false hl
      have H2 : decide (1048576 < nb) = false := decide_eq_false hl2
      have HA := Lib.hid hA
      have HBC := Lib.hid hB
      clear hA hB
      go_enter Tryz.func3, Tryz.ntmps3
      go_wp2_with (go_at_call 4; refine (b10Long_calls _ _ _ _ (by assumption)).mono ?_; rintro e w1 ⟨rfl, rfl⟩)
      go_at_call 5
      refine (drawTraced_calls _ _ _ _ HA.out hn).mono ?_
      rintro e w1 ⟨⟨I, ni, ci, s0, a1, a2, a3, a4, M, q, d, g, C, p, e2, f, rfl, hI, hM, hC⟩, hb1⟩
      have HI := Lib.hid hI.2.2.1.row
      have HZ := Lib.hid hI.2.2.2
      have HM := Lib.hid hM.2.2.1.row
      have HG := Lib.hid hM.2.2.2
      have HC := Lib.hid hC.2.2.1.row
      have HF := Lib.hid hC.2.2.2
      have hni : ni ≤ 7 := hI.2.1
      have hqd : q ≤ d := hM.1
      have hq : q ≤ 13 := hM.2.1
      have hp : p ≤ 25 := hC.2.1
      have HB1 := Lib.hid hb1
      clear hI hM hC hb1 H1 H2 HA
      obtain ⟨R, hR⟩ : ∃ R, R = trB s0 a1 a2 a3 a4 ni g q f p := ⟨_, rfl⟩
      have HR := Lib.hid hR
      clear hR
      go_wp2_with fail
      go_at_call 6
      refine (TracedBells_calls I ni ci s0 a1 a2 a3 a4 M q d g C p e2 f w1 HI.out HZ.out (by omega) HM.out (by omega) hqd HG.out HC.out (by omega) HF.out).mono ?_
      rw [← HR.out]
      rintro e w2 ⟨rfl, hb2⟩
      have HB2 := Lib.hid (HB1.out.trans (hb2.mono HB1.out.size))
      have HI2 := Lib.hid (HI.out.below hb2 (Nat.le_refl _))
      have HM2 := Lib.hid (HM.out.keep hb2)
      have HC2 := Lib.hid (HC.out.keep hb2)
      clear HI HM HC hb2 HB1
      go_wp2_with fail
      go_at_call 7
      refine (drawRecall_calls _ _ _ _ (HBC.out.below HB2.out (Nat.le_refl _)) hnb).mono ?_
      rintro e w3 ⟨⟨D, pd, ed, fd, id, rfl, hD⟩, hb3⟩
      have HB3 := Lib.hid (HB2.out.trans (hb3.mono HB2.out.size))
      have HI3 := Lib.hid (HI2.out.below hb3 (Nat.le_refl _))
      have HM3 := Lib.hid (HM2.out.keep hb3)
      have HC3 := Lib.hid (HC2.out.keep hb3)
      have HD3 := Lib.hid hD.2.2.1.row
      have HFD := Lib.hid hD.2.2.2
      have hpd : pd ≤ 25 := hD.2.1
      clear HI2 HM2 HC2 HB2 hb3 hD HBC
      have HRM := Lib.hid (RecallMelt_calls D pd ed fd id w3 HD3.out HFD.out (by omega))
      obtain ⟨CC, hCC⟩ : ∃ CC, CC = rmC fd pd := ⟨_, rfl⟩
      rw [← hCC] at HRM
      obtain ⟨RL, hRL⟩ : ∃ RL, RL = rmN fd pd id := ⟨_, rfl⟩
      rw [← hRL] at HRM
      have hrn := rmN_le fd pd id
      rw [← hRL] at hrn
      have HRLL := Lib.hid hRL
      clear hRL
      have HCC := Lib.hid hCC
      clear hCC
      go_wp2_with fail
      go_at_call 8
      refine HRM.out.mono ?_
      rintro e w4 ⟨v, rfl, A4, c4, G4, rfl, hso, -, hb4⟩
      have HB4 := Lib.hid (HB3.out.trans (hb4.mono HB3.out.size))
      have HI4 := Lib.hid (HI3.out.below hb4 (Nat.le_refl _))
      have HM4 := Lib.hid (HM3.out.keep hb4)
      have HC4 := Lib.hid (HC3.out.keep hb4)
      have HD4 := Lib.hid (HD3.out.keep hb4)
      have HSO := Lib.hid hso
      clear HI3 HM3 HC3 HD3 HB3 hb4 hso HRM
      go_upto_if 56 with (fail)
      generalize hZ : (CC == 0) = Z
      have HZZ := Lib.hid hZ
      clear hZ
      go_cut [13, 14, 15, 16] (fun _ _ _ _ wx => Hid (Below w4.heap.size w4 wx))
      case first =>
        cases Z
        · go_wp2_with fail
          go_meet
          exact Lib.hid (Below.refl _ _)
        · have hz : rmC fd pd = 0 := by rw [← HCC.out]; exact eq_of_beq HZZ.out
          have hok := rm_ok hz
          have HRL := Lib.hid (show RL = (selL (fun i => hasM (fd i) id) (fun i => (fd i).id) pd).length from by rw [HRLL.out]; exact rm_len hz)
          have HSR := Lib.hid HSO.out.row
          clear hz hok
          go_wp2_with fail
          go_loopw [13, 14] (fun u i wr => ∃ k M0 : Nat, k ≤ pd ∧ i = .int .i64 k ∧ u = .int .i64 M0 ∧ M0 ≤ k ∧ Hid (M0 = (selL (fun i => hasM (fd i) id) (fun i => (fd i).id) k).length) ∧ Below w4.heap.size w4 wr) (fun _ i _ => pd - (intOf i).toNat)
          case atStart => exact ⟨0, 0, by omega, rfl, rfl, by omega, Lib.hid rfl, Below.refl _ _⟩
          case round =>
            obtain ⟨k, M0, hk, rfl, rfl, hMk, hM0, hbr⟩ := hrel
            by_cases hlt : k < pd
            · obtain ⟨bD, oD, rfl, hrow⟩ := HD4.out (by omega)
              have HAT := Lib.hid (hrow k hlt)
              obtain ⟨AK, CK, c0, c1, c2, c3, c4, hsh⟩ := (hrow k hlt).keep hbr
              have hfk := (HFD.out k hlt).2.2
              obtain ⟨N, hN⟩ : ∃ N, N = (fd k).n := ⟨_, rfl⟩
              rw [← hN] at c4 hfk
              have HN := Lib.hid hN
              clear hrow c0 c1 c2 c3 hsh hN
              go_wp2_with fail
              go_loopw [15, 16] (fun hs j wq => ∃ (j2 : Nat) (hh : Bool), j2 ≤ N ∧ j = .int .i64 j2 ∧ hs = .bool hh ∧ Hid (hh = anyB (fun t => ((fd k).ss t).toList == id.toList) j2) ∧ Below w4.heap.size w4 wq) (fun _ j _ => N - (intOf j).toNat)
              case atStart => exact ⟨0, false, by omega, rfl, rfl, Lib.hid rfl, hbr⟩
              case round =>
                clear hbr c4
                obtain ⟨j2, hh, hj2, rfl, rfl, hany, hbr⟩ := hrel
                obtain ⟨AK, CK, c0, c1, c2, c3, c4, hsh⟩ := HAT.out.keep hbr
                rw [← HN.out] at c4
                by_cases hlt2 : j2 < N
                · obtain ⟨b5, o5, rfl, hr5⟩ := hsh (by have := HN.out; omega)
                  obtain ⟨d0, -⟩ := hr5 j2 (by have := HN.out; omega)
                  obtain ⟨y, hy⟩ : ∃ y, y = (fd k).ss j2 := ⟨_, rfl⟩
                  rw [← hy] at d0
                  have hstep := Lib.hid (show anyB (fun t => ((fd k).ss t).toList == id.toList) (j2 + 1) = (hh || (y.toList == id.toList)) from by rw [anyB_succ, ← hany.out, hy])
                  clear hr5 c0 c1 c2 c3 hy hany
                  cases hh
                  · cases q5 : (y.toList == id.toList)
                    · go_wp2
                      go_roundw
                      case rel => exact ⟨j2 + 1, false, by omega, by go_num, rfl, Lib.hid (by rw [hstep.out, q5]; rfl), hbr⟩
                      case measure => simp [intOf]; omega
                    · go_wp2
                      go_roundw
                      case rel => exact ⟨j2 + 1, true, by omega, by go_num, rfl, Lib.hid (by rw [hstep.out, q5]; rfl), hbr⟩
                      case measure => simp [intOf]; omega
                  · go_wp2
                    go_roundw
                    case rel => exact ⟨j2 + 1, true, by omega, by go_num, rfl, Lib.hid (by rw [hstep.out]; rfl), hbr⟩
                    case measure => simp [intOf]; omega
                · obtain rfl : j2 = N := by omega
                  have hP := Lib.hid (show hh = hasM (fd k) id from by rw [hany.out, HN.out]; rfl)
                  clear hany hsh c1 c2 c3
                  cases hh
                  · go_wp2
                    go_roundw
                    case rel => exact ⟨k + 1, M0, by omega, by go_num, rfl, by omega, Lib.hid (by rw [selL_no (p := fun i => hasM (fd i) id) (s := fun i => (fd i).id) hP.out.symm]; exact hM0.out), hbr⟩
                    case measure => simp [intOf]; omega
                  · have hlim := selS_at (p := fun i => hasM (fd i) id) (s := fun i => (fd i).id) hlt hP.out.symm
                    have hMR : M0 < RL := by rw [HRL.out, hM0.out]; exact hlim.1
                    obtain ⟨bS, oS, rfl, hrS⟩ := HSR.out (by omega)
                    have d0 := cell_keep hbr (hrS M0 hMR)
                    rw [show rmS fd pd id M0 = (fd k).id from by rw [hM0.out]; exact hlim.2] at d0
                    have hge : ¬ (RL : Int) ≤ M0 := by omega
                    clear hlim hrS
                    go_wp2_with fail
                    go_quiet (fail)
                    go_wp2
                    go_roundw
                    case rel => exact ⟨k + 1, M0 + 1, by omega, by go_num, by go_num, by omega, Lib.hid (by rw [selL_yes (p := fun i => hasM (fd i) id) (s := fun i => (fd i).id) hP.out.symm, List.length_append, ← hM0.out]; rfl), below_drewN hbr _⟩
                    case measure => simp [intOf]; omega
            · obtain rfl : k = pd := by omega
              have hMR : M0 = RL := by rw [HRL.out]; exact hM0.out
              subst hMR
              go_wp2_with fail
              go_meet
              exact Lib.hid hbr
      case rest =>
      have HBC := hcut
      have HB5 := Lib.hid (HB4.out.trans (HBC.out.mono HB4.out.size))
      have HI5 := Lib.hid (HI4.out.below HBC.out (Nat.le_refl _))
      have HM5 := Lib.hid (HM4.out.keep HBC.out)
      have HC5 := Lib.hid (HC4.out.keep HBC.out)
      clear HI4 HM4 HC4 HD4 HB4 HSO HBC hcut HFD
      cases R
      · go_wp2
        go_ret
        exact ⟨rfl, HB5.out⟩
      · have HTR := Lib.hid HR.out.symm
        have hn7 := hni
        go_wp2_with fail
        go_loopw [17] (fun i wr => ∃ k : Nat, k ≤ p ∧ i = .int .i64 k ∧ Below wc.heap.size wc wr) (fun i _ => p - (intOf i).toNat)
        case atStart => exact ⟨0, by omega, rfl, Below.refl _ _⟩
        case round =>
          obtain ⟨k, hk, rfl, hbr⟩ := hrel
          by_cases hlt : k < p
          · skip
            obtain ⟨bC, oC, rfl, hrC⟩ := HC5.out (by omega)
            have HRC5 := Lib.hid hrC
            obtain ⟨AK, CK, x0, x1, x2, x3, x4, hsh⟩ := (hrC k hlt).keep hbr
            have HSHK := Lib.hid hsh
            have hfk := HF.out k hlt
            clear hrC hsh
            have HIO := Lib.hid (IngotsOf_calls M q d g (f k).id (f k).no (f k).ma (f k).fe AK (f k).n CK (f k).ss (f k).ms _ (HM5.out.keep hbr) (by omega) hqd HG.out hfk.1 HSHK.out hfk.2.1 hfk.2.2)
            rw [show ioC g q ⟨(f k).id, (f k).no, (f k).ma, (f k).fe, (f k).n, (f k).ss, (f k).ms⟩ = 0 from tr_io HTR.out hlt] at HIO
            obtain ⟨L, hL⟩ : ∃ L, L = ioL g q (f k) := ⟨_, rfl⟩
            have hL0 : 0 < L.length := by rw [hL]; exact (tr_list HTR.out hlt).2
            have HLE := Lib.hid hL
            clear hL
            go_wp2_with fail
            go_at_call 9
            refine HIO.out.mono ?_
            rw [show ioL g q ⟨(f k).id, (f k).no, (f k).ma, (f k).fe, (f k).n, (f k).ss, (f k).ms⟩ = L from HLE.out.symm]
            rintro e w6 ⟨v, rfl, A6, c6, G6, rfl, ho6, -, hb6⟩
            obtain ⟨LL, hLL⟩ : ∃ LL, LL = L.length := ⟨_, rfl⟩
            rw [← hLL] at ho6 hL0 ⊢
            have HLL := Lib.hid hLL
            clear hLL
            have HB6 := Lib.hid (hbr.trans (hb6.mono hbr.size))
            have HO6 := Lib.hid ho6
            have hne0 : ¬ (LL : Int) = 0 := by omega
            clear HIO ho6
            have y0 := cell_keep hb6 x0
            have y1 := cell_keep hb6 x1
            have y2 := cell_keep hb6 x2
            have y3 := cell_keep hb6 x3
            have y4 := cell_keep hb6 x4
            have HX4 := Lib.hid (fun (h : k < p) => tr_alloy HTR.out h)
            have HAB := Lib.hid (AlloyOfBell_calls I ni ci s0 a1 a2 a3 a4 M q d g (f k).id (f k).no (f k).ma (f k).fe AK (f k).n CK (f k).ss (f k).ms w6 (HI5.out.below HB6.out (Nat.le_refl _)) HZ.out (by omega) (HM5.out.keep HB6.out) (by omega) HG.out hfk.1 (ShareRow.keep HSHK.out hb6) hfk.2.1 hfk.2.2 hqd)
            rw [show abC s0 a1 a2 a3 a4 ni g q ⟨(f k).id, (f k).no, (f k).ma, (f k).fe, (f k).n, (f k).ss, (f k).ms⟩ = 0 from tr_abC HTR.out hlt] at HAB
            obtain ⟨t0, ht0⟩ : ∃ t, t = abF s0 a1 a2 a3 a4 ni g q (f k) 0 := ⟨_, rfl⟩
            obtain ⟨t1, ht1⟩ : ∃ t, t = abF s0 a1 a2 a3 a4 ni g q (f k) 1 := ⟨_, rfl⟩
            obtain ⟨t2, ht2⟩ : ∃ t, t = abF s0 a1 a2 a3 a4 ni g q (f k) 2 := ⟨_, rfl⟩
            have HAL := Lib.hid (show alloyB t0 t1 t2 = true from by rw [ht0, ht1, ht2]; exact tr_alloy HTR.out hlt)
            have HAB2 : Hid (Calls Tryz.prog 10 #[.slice I ni ci, .slice M q d, .agg #[.string (f k).id, .int .i64 (f k).no, .int .i64 (f k).ma, .int .i64 (f k).fe, .slice AK (f k).n CK]] w6 fun e w' => e = .returned (.tuple #[.agg #[.int .i64 t0, .int .i64 t1, .int .i64 t2], .int .i64 0]) ∧ Below w6.heap.size w6 w') := Lib.hid (by rw [ht0, ht1, ht2]; exact HAB.out)
            clear ht0 ht1 ht2 HAB HX4 x0 x1 x2 x3 x4 hb6
            go_wp2_with fail
            go_at_call 10
            refine HAB2.out.mono ?_
            rintro e w7 ⟨rfl, hb7⟩
            have HB7 := Lib.hid (HB6.out.trans (hb7.mono HB6.out.size))
            clear hb7 y0 y1 y2 y3 y4 HAB2 HB6
            have HV := Lib.hid (sValidAlloy_calls t0 t1 t2 (w7.alloc (.cells #[.int .i64 t0, .int .i64 t1, .int .i64 t2] 42)))
            rw [HAL.out] at HV
            go_wp2_with fail
            go_at_call 11
            refine HV.out.mono ?_
            rintro e w8 ⟨rfl, hb8⟩
            have HB8 := Lib.hid ((HB7.out.alloc HB7.out.size (.cells #[.int .i64 t0, .int .i64 t1, .int .i64 t2] 42)).trans (hb8.mono (by have := HB7.out.size; simp; omega)))
            clear hb8 HV HB7
            go_wp2
            go_roundw
            case rel => exact ⟨k + 1, by omega, by go_num, HB8.out⟩
            case measure => simp [intOf]; omega
          · obtain rfl : k = p := by omega
            have HBB := Lib.hid hbr
            clear hbr
            go_wp2_with fail
            go_loopw [22] (fun i wq => ∃ k2 : Nat, k2 ≤ ni ∧ i = .int .i64 k2 ∧ Below wc.heap.size wc wq) (fun i _ => ni - (intOf i).toNat)
            case atStart => exact ⟨0, by omega, rfl, HBB.out⟩
            case round =>
              clear HBB
              obtain ⟨k2, hk2, rfl, hbr⟩ := hrel
              by_cases hlt2 : k2 < ni
              · obtain ⟨bI, oI, rfl, hrI⟩ := HI5.out (by omega)
                have HRI := Lib.hid hrI
                obtain ⟨d0, -⟩ := (hrI k2 hlt2).below hbr (Nat.le_refl _)
                obtain ⟨y, hy⟩ : ∃ y, y = s0 k2 := ⟨_, rfl⟩
                rw [← hy] at d0
                have D0 := Lib.hid (show wc.cell? ⟨bI, oI + k2 * 5, none⟩ = some (.string y) from by rw [hy]; exact (hrI k2 hlt2).1)
                have HRC := Lib.hid (RecallIngot_calls M q d g C k e2 f y _ (HM5.out.keep hbr) (by omega) hqd HG.out (HC5.out.keep hbr) (by omega) HF.out)
                rw [show askC g q f k = 0 from tr_ask HTR.out] at HRC
                obtain ⟨RN, hRN⟩ : ∃ RN, RN = riN g q f k y := ⟨_, rfl⟩
                obtain ⟨RS, hRS⟩ : ∃ RS, RS = riS g q f k y := ⟨_, rfl⟩
                have hrn2 := riN_le g q f k y
                rw [← hRN] at hrn2
                rw [← hRN, ← hRS] at HRC
                have HREC := Lib.hid (show ∀ i, i < k → inS RS RN (f i).id = inS (sl (ioL g q (f i))) (ioL g q (f i)).length y from fun i hi => by rw [hRN, hRS]; exact tr_recall HTR.out hi)
                clear hrI hRN hRS hy
                go_wp2_with fail
                go_at_call 12
                refine HRC.out.mono ?_
                rintro e w7 ⟨v, rfl, A7, c7, G7, rfl, ho7, -, hb7⟩
                have HB7 := Lib.hid (hbr.trans (hb7.mono hbr.size))
                have HS7 := Lib.hid ho7.row
                clear HRC ho7 hb7 hbr d0
                go_wp2_with fail
                go_loopw [25] (fun i wz => ∃ k3 : Nat, k3 ≤ k ∧ i = .int .i64 k3 ∧ Hid (StrRow wz A7 RN RS) ∧ Below wc.heap.size wc wz) (fun i _ => k - (intOf i).toNat)
                case atStart => exact ⟨0, by omega, rfl, HS7, HB7.out⟩
                case round =>
                  clear HB7 HS7
                  obtain ⟨k3, hk3, rfl, hs7, hbr⟩ := hrel
                  by_cases hlt : k3 < k
                  · skip
                    obtain ⟨bC, oC, rfl, hrC⟩ := HC5.out (by omega)
                    have HRC5 := Lib.hid hrC
                    obtain ⟨AK, CK, x0, x1, x2, x3, x4, hsh⟩ := (hrC k3 hlt).keep hbr
                    have HSHK := Lib.hid hsh
                    have hfk := HF.out k3 hlt
                    clear hrC hsh
                    have HIO := Lib.hid (IngotsOf_calls M q d g (f k3).id (f k3).no (f k3).ma (f k3).fe AK (f k3).n CK (f k3).ss (f k3).ms _ (HM5.out.keep hbr) (by omega) hqd HG.out hfk.1 HSHK.out hfk.2.1 hfk.2.2)
                    rw [show ioC g q ⟨(f k3).id, (f k3).no, (f k3).ma, (f k3).fe, (f k3).n, (f k3).ss, (f k3).ms⟩ = 0 from tr_io HTR.out hlt] at HIO
                    obtain ⟨L, hL⟩ : ∃ L, L = ioL g q (f k3) := ⟨_, rfl⟩
                    have hL0 : 0 < L.length := by rw [hL]; exact (tr_list HTR.out hlt).2
                    have HLE := Lib.hid hL
                    clear hL
                    go_wp2_with fail
                    go_at_call 9
                    refine HIO.out.mono ?_
                    rw [show ioL g q ⟨(f k3).id, (f k3).no, (f k3).ma, (f k3).fe, (f k3).n, (f k3).ss, (f k3).ms⟩ = L from HLE.out.symm]
                    rintro e w6 ⟨v, rfl, A6, c6, G6, rfl, ho6, -, hb6⟩
                    obtain ⟨LL, hLL⟩ : ∃ LL, LL = L.length := ⟨_, rfl⟩
                    rw [← hLL] at ho6 hL0 ⊢
                    have HLL := Lib.hid hLL
                    clear hLL
                    have HB6 := Lib.hid (hbr.trans (hb6.mono hbr.size))
                    have HO6 := Lib.hid ho6
                    have hne0 : ¬ (LL : Int) = 0 := by omega
                    clear HIO ho6
                    have hx0 := cell_keep hb6 x0
                    have d0 := cell_keep HB6.out D0.out
                    have HS8 := Lib.hid (hs7.out.keep hb6)
                    have HREK := Lib.hid (HREC.out k3 hlt)
                    rw [← HLE.out, ← HLL.out] at HREK
                    have hL64 : LL ≤ 64 := by rw [HLL.out, HLE.out]; exact ioL_len
                    obtain ⟨z, hz⟩ : ∃ z, z = (f k3).id := ⟨_, rfl⟩
                    rw [← hz] at hx0 HREK
                    obtain ⟨Q, hQ⟩ : ∃ Q, Q = inS RS RN z := ⟨_, rfl⟩
                    rw [← hQ] at HREK
                    have HQ1 := Lib.hid (fun m => show Calls Tryz.prog 13 #[.slice A7 RN c7, .string z] (w6.drewN m) (fun e w' => e = .returned (.bool Q) ∧ w6.drewN m = w') from by have q9 := b10In_calls A7 RN c7 RS z (w6.drewN m) (HS8.out.drewN m) (by omega); rwa [← hQ] at q9)
                    have HQ2 := Lib.hid (fun m => show Calls Tryz.prog 13 #[.slice A6 LL c6, .string y] (w6.drewN m) (fun e w' => e = .returned (.bool Q) ∧ w6.drewN m = w') from by have q9 := b10In_calls A6 LL c6 (sl L) y (w6.drewN m) (HO6.out.row.drewN m) (by omega); rwa [← HREK.out] at q9)
                    have HB8 := HB6
                    clear hz hQ hb6 x0 x1 x2 x3 x4 HB6
                    go_wp2_with fail
                    go_quiet (first | (go_at_call 13; with_reducible exact quiet_left (HQ1.out _)) | (go_at_call 13; with_reducible exact quiet_left (HQ2.out _)))
                    go_wp2
                    go_roundw
                    case rel => exact ⟨k3 + 1, by omega, by go_num, Lib.hid (HS8.out.drewN _), below_drewN HB8.out _⟩
                    case measure => simp [intOf]; omega
                  · obtain rfl : k3 = k := by omega
                    go_wp2
                    go_roundw
                    case rel => exact ⟨k2 + 1, by omega, by go_num, hbr⟩
                    case measure => simp [intOf]; omega
              · obtain rfl : k2 = ni := by omega
                go_wp2
                go_ret
                exact ⟨rfl, HB5.out.trans (hbr.mono HB5.out.size)⟩
theorem own : ownKnob Tryz.prog.godebug = none := by kernel_rfl
theorem laidOut : laidOutB Tryz.prog = true := by kernel_rfl
set_option maxRecDepth 100000 in
theorem lifted (os : Os) (started : os.Started) (H : Type) (enc : TypeId × Value → H) :
    ReturnsInHanded {} Tryz.checked os 3 .any (Rows.fnRecallsSpec.pre6 enc Tryz.prog Tryz.f3 Rows.fnRecallsRow.domain false) (Rows.fnRecallsSpec.post enc Tryz.prog Tryz.f3 false true false false) := by
  refine returnsInHanded_of_change (C := Tryz.checked) own started (by kernel_rfl) Tryz.func3
    (ChangeSpec.witness6 (enc := enc) (C := Tryz.checked) false ⟨#[], #[.slice none 0 0, .slice none 0 0], []⟩ 8 (by kernel_rfl) (by kernel_rfl) (by kernel_rfl) (by kernel_rfl)) ?_
  intro W base args ds gs before hval0 hW hcnd _
  have hval : ∀ (j : Nat) t v, Tryz.f3.params[j]? = some t → args[j]? = some v → Value.okWide Tryz.prog W .any base t v := hval0
  have hW' := hW
  obtain ⟨p, q, hA0, hV, rfl, hfz, hnd⟩ := hW
  have hA : DataW.TrodAll enc Tryz.prog W 0 (fun _ => true) true Tryz.f3.params.toList args.toList ds p := hA0
  rw [Tryz.params3] at hA hval
  obtain ⟨v0, vs0, d0, ds0, p0, q0, hargs, rfl, rfl, h0, r0⟩ := trodAll_cons hA
  obtain ⟨v1, vs1, d1, ds1, p1, q1, rfl, rfl, rfl, h1, r1⟩ := trodAll_cons r0
  obtain ⟨rfl, rfl, rfl⟩ := trodAll_nil r1
  obtain rfl : args = #[v0, v1] := by cases args; simp_all
  obtain ⟨rfl, rfl⟩ := trodVars_none hV
  have k0 := h0
  have lt0 : ∀ x ∈ p0, x.block < W.heap.size := by obtain ⟨m, hm⟩ := k0; exact DataW.trod_lt m _ _ _ hm
  have k1 := h1
  have lt1 : ∀ x ∈ p1, x.block < W.heap.size := by obtain ⟨m, hm⟩ := k1; exact DataW.trod_lt m _ _ _ hm
  obtain ⟨A0, n0, m0, rfl⟩ := okWide_slice Tryz.underlying22 (hval 0 22 v0 rfl rfl)
  obtain ⟨fu0, hf0⟩ := h0
  obtain ⟨hr0, hn0⟩ := openBytes hf0
  obtain ⟨A1, n1, m1, rfl⟩ := okWide_slice Tryz.underlying22 (hval 1 22 v1 rfl rfl)
  obtain ⟨fu1, hf1⟩ := h1
  obtain ⟨hr1, hn1⟩ := openBytes hf1
  clear hA0 hval0
  refine (walk A0 n0 m0 A1 n1 m1 W hr0 hn0 hr1 hn1).mono fun e W' ⟨he, bel⟩ => ?_
  subst he
  exact ⟨_, rfl, _, _, _, [], _, [], hW', trodAll_mk1 (shut_bool Tryz.underlying4 _), (trodAll_cons_mk (Below.trod laidOut (by kernel_rfl) (of_decide_eq_true (by kernel_rfl)) k0 bel lt0) (trodAll_cons_mk (Below.trod laidOut (by kernel_rfl) (of_decide_eq_true (by kernel_rfl)) k1 bel lt1) trodAll_mk0)), rfl, bel.frame _, fun h => by cases h⟩
theorem proved : Rows.FnRecallsSaid :=
  OpenClaim.holds_of_wide 3 Tryz.f3 rfl rfl rfl rfl rfl rfl rfl ⟨rfl, rfl, rfl, rfl, rfl⟩ rfl rfl rfl rfl rfl (by kernel_rfl) Tryz.func3 (by kernel_rfl)
    (of_decide_eq_true (by kernel_rfl)) (by unfold Func.isWrapper; first | (rw [if_pos (by decide +kernel)]; kernel_rfl) | (rw [if_neg (by decide +kernel)]; exact ⟨rfl, rfl⟩))
    (fun os started H enc _ => lifted os started H enc)
end Go.Proofs.YticnpibkpfpojaaGreat.FnRecalls
