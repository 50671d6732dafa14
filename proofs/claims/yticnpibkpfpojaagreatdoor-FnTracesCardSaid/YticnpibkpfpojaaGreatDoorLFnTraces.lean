import Derived.Test.YticnpibkpfpojaaGreatDoorCards
import Derived.Test.YticnpibkpfpojaaGreatDoorTie
import Derived.Test.YticnpibkpfpojaaGreatDoorFrame
import Derived.Test.YticnpibkpfpojaaGreatDoorJAdd
import Derived.Test.YticnpibkpfpojaaGreatDoorJDrG
import Derived.Lib.LaidTab
import Derived.LaidMore
import Derived.Lay
import Derived.Stop.Joined
import Derived.Stop.LaidErr
import Derived.Deep.DeepCutAuto
/- FnTraces: a bell that is added keeps all bells traced, its melts become less by its shares, and bells are read back: for every code; the library's tables and errors read as its text lays them (tied). -/
namespace Go.Proofs.YticnpibkpfpojaaGreatDoor.FnTraces
set_option linter.unusedVariables false
open Go.ChangeShapes Go.WideShapes Go.ChangeAt Go.RowKit Go.Deep
open Go.ChangeMaps (open_string shut_string)

theorem hasLib_of {W : World} (hS : W.ShapedOpen Tryz.prog) (h : laidMetH Tryz.prog Rows.fnTracesRow.laid W) : HasLib W := by
  rw [MakeChecks.laidMetH_plain _ _ _ (by kernel_rfl)] at h
  have h3 := laidMet.tail (laidMet.tail h)
  refine ⟨Lib.tabIs_of_head (by kernel_rfl) (by kernel_rfl : (Tryz.prog.globals[3]?).map (·.type) = some 182) Tryz.underlying182 Tryz.underlying78 (by kernel_rfl) (by kernel_rfl) h3, hasMax hS, ?_, ?_⟩
  · obtain ⟨a0, s0, hv0, -⟩ := laid_sentinel (laidMet.tail (laidMet.tail (laidMet.tail h3))) gSyn (by kernel_rfl) Tryz.underlying99 errRow Tryz.underlying192 Tryz.underlying194 rfl rfl Tryz.underlying9 (by kernel_rfl) (by kernel_rfl)
    exact ⟨_, _, hv0⟩
  · obtain ⟨a0, s0, hv0, -⟩ := laid_sentinel (laidMet.tail (laidMet.tail h3)) gRan (by kernel_rfl) Tryz.underlying99 errRow Tryz.underlying192 Tryz.underlying194 rfl rfl Tryz.underlying9 (by kernel_rfl) (by kernel_rfl)
    exact ⟨_, _, hv0⟩
set_option maxRecDepth 20000 in
set_option maxHeartbeats 16000000 in
theorem walk (A : Option Addr) (n c : Nat) (w : World) (hA : Code8 w A n) (hn : n ≤ maxLen) (hL : HasLib w) :
    Calls Tryz.prog 3 #[.slice A n c] w fun e w' => e = .returned (.bool true) ∧ Below w.heap.size w w' := by
  by_cases hl : 1048576 < n
  · go_enter Tryz.func3, Tryz.ntmps3
    go_wp2_with (go_at_call 4; refine (b10Long_calls _ _ _ _ (by assumption)).mono ?_; rintro e w1 ⟨rfl, rfl⟩)
    go_ret
    exact ⟨rfl, Below.refl _ _⟩
  · have H1 : decide (1048576 < n) = false := decide_eq_false hl
    have HL := Lib.hid hL
    have HA := Lib.hid hA
    clear hL hA
    go_enter Tryz.func3, Tryz.ntmps3
    go_wp2_with (go_at_call 4; refine (b10Long_calls _ _ _ _ (by assumption)).mono ?_; rintro e w1 ⟨rfl, rfl⟩)
    go_at_call 5
    refine (drawAddBell_calls _ _ _ _ HA.out hn).mono ?_
    rintro e w1 ⟨⟨B, q, d, g, C, p, e2, f, x, X, e3, rfl, hM, hC, hX, hfx⟩, hb1⟩
    have hal := (Below.refl w1.heap.size w1).alloc (Nat.le_refl _) (.cells #[.string x.id, .int .i64 x.no, .int .i64 x.ma, .int .i64 x.fe, .slice X x.n e3] 28)
    have HM := Lib.hid (hM.2.2.1.row.keep hal)
    have HG := Lib.hid hM.2.2.2
    have HC := Lib.hid (hC.2.2.1.row.keep hal)
    have HF := Lib.hid hC.2.2.2
    have HX := Lib.hid (ShareRow.keep hX.row hal)
    have HFX := Lib.hid hfx
    have hqd : q ≤ d := hM.1
    have hq : q ≤ 13 := hM.2.1
    have hpe : p ≤ e2 := hC.1
    have hp : p ≤ 25 := hC.2.1
    have KB := Lib.hid (hb1.trans (hal.mono hb1.size))
    have HBX := Lib.hid (Blk.new w1 28 #[.string x.id, .int .i64 x.no, .int .i64 x.ma, .int .i64 x.fe, .slice X x.n e3])
    have hxn : x.n ≤ 1048576 := hfx.2.2
    clear hM hC hX hfx hb1 hal H1 HA
    obtain ⟨G1, hG1⟩ : ∃ G1, G1 = w1.heap.size := ⟨_, rfl⟩
    have x0 := (HBX.out.cell 0).trans rfl
    have x1 := (HBX.out.cell 1).trans rfl
    have x2 := (HBX.out.cell 2).trans rfl
    have x3 := (HBX.out.cell 3).trans rfl
    have x4 := (HBX.out.cell 4).trans rfl
    go_wp2_with fail
    clear x0 x1 x2 x3 x4
    go_at_call 6
    refine (iAddBell_calls B q d g C p e2 f x X e3 _ HM.out (by omega) hqd HG.out HC.out (by omega) hpe HF.out HX.out HFX.out).mono ?_
    rintro e w2 (⟨hne, rfl, hb⟩ | ⟨had, A9, c9, G9, rfl, hb9, -, hb⟩)
    · skip
      replace KB := Lib.hid (KB.out.trans (hb.mono KB.out.size))
      replace HBX := Lib.hid (HBX.out.keep hb)
      replace HM := Lib.hid (HM.out.keep hb)
      replace HC := Lib.hid (HC.out.keep hb)
      replace HX := Lib.hid (ShareRow.keep HX.out hb)
      clear hb
      go_wp2
      go_ret
      exact ⟨rfl, KB.out⟩
    · skip
      replace KB := Lib.hid (KB.out.trans (hb.mono KB.out.size))
      replace HBX := Lib.hid (HBX.out.keep hb)
      replace HM := Lib.hid (HM.out.keep hb)
      replace HC := Lib.hid (HC.out.keep hb)
      replace HX := Lib.hid (ShareRow.keep HX.out hb)
      have HN := Lib.hid hb9.row
      have HAD := Lib.hid had
      obtain ⟨ha1, ha2, ha3, ha4, ha5, ha6, ha7, ha8⟩ := ad_parts had
      have HV3 := Lib.hid ha3
      have hn4 := (bellV_few ha3).1
      clear hb hb9 had ha1 ha2 ha4 ha5 ha6 ha7 ha8
      obtain ⟨F, hF⟩ : ∃ F, F = insF f (posA f x p) x := ⟨_, rfl⟩
      rw [← hF] at HN
      have HOKF := Lib.hid (show okBells F (p + 1) = true from by rw [hF]; exact ad_bells HAD.out)
      have HFF := Lib.hid (show ∀ i, i < p + 1 → Fine (F i) from by rw [hF]; exact insF_all (C := Fine) HF.out HFX.out (posA_spec f x p).1)
      have HLE := Lib.hid (show ∀ k, k < x.n → lfC g q f p (x.ss k) = 0 ∧ lfC g q F (p + 1) (x.ss k) = 0 ∧ lfV g q f p (x.ss k) - lfV g q F (p + 1) (x.ss k) = x.ms k from fun k hk => by rw [hF]; exact ad_left HAD.out hk)
      have HLB := Lib.hid (show (∀ s, 0 ≤ lfV g q f p s ∧ lfV g q f p s ≤ 320000000) ∧ ∀ s, 0 ≤ lfV g q F (p + 1) s ∧ lfV g q F (p + 1) s ≤ 320000000 from ⟨lfV_bd, lfV_bd⟩)
      clear hF
      have x0 := (HBX.out.cell 0).trans rfl
      have x1 := (HBX.out.cell 1).trans rfl
      have x2 := (HBX.out.cell 2).trans rfl
      have x3 := (HBX.out.cell 3).trans rfl
      have x4 := (HBX.out.cell 4).trans rfl
      have HBT := Lib.hid (BellText_calls x.id x.no x.ma x.fe X x.n e3 x.ss x.ms w2 HFX.out.1 HX.out HFX.out.2.1 hxn ((HL.out.keep KB.out).1))
      obtain ⟨T, hT⟩ : ∃ T, T = bellText x.id x.no x.ma x.fe x.n x.ss x.ms := ⟨_, rfl⟩
      rw [← hT] at HBT
      have HTT := Lib.hid (show T = bellT x.id x.no x.ma x.fe x.n x.ss x.ms from by rw [hT]; exact if_pos HV3.out)
      have hT2 : T.size ≤ 1048576 := by rw [HTT.out]; exact bellT_size HV3.out
      clear hT
      go_wp2_with fail
      clear x0 x1 x2 x3 x4
      go_at_call 8
      refine HBT.out.mono ?_
      rintro e w3 ⟨rfl, hb⟩
      replace KB := Lib.hid (KB.out.trans (hb.mono KB.out.size))
      replace HBX := Lib.hid (HBX.out.keep hb)
      replace HM := Lib.hid (HM.out.keep hb)
      replace HC := Lib.hid (HC.out.keep hb)
      replace HX := Lib.hid (ShareRow.keep HX.out hb)
      replace HN := Lib.hid (HN.out.keep hb)
      clear hb HBT
      go_wp2_with fail
      go_at_call 7
      refine (ReadBell_calls T w3 hT2 (HL.out.keep KB.out)).mono ?_
      rintro e w4 ⟨id2, no2, ma2, fe2, Y, n2, cy, G2, ss2, ms2, b2, rfl, hr2, hf2, hn2, h2, hb⟩
      obtain ⟨r0, r1, r2, r3, r4, heq, rfl⟩ := bellOut_same h2 (Or.inl ⟨rfl, show bellB x.id x.no x.ma x.fe x.n x.ss x.ms = true from HV3.out, HTT.out.symm⟩)
      obtain ⟨y, hy⟩ : ∃ y : BellV, y = ⟨id2, no2, ma2, fe2, n2, ss2, ms2⟩ := ⟨_, rfl⟩
      have HSM := Lib.hid (show allSame (fun _ => y) (fun _ => x) 1 1 = true from by rw [hy]; exact same_read r0 r1 r2 r3 r4 heq)
      have hy0 : id2 = y.id := by rw [hy]
      have hy1 : no2 = y.no := by rw [hy]
      have hy2 : ma2 = y.ma := by rw [hy]
      have hy3 : fe2 = y.fe := by rw [hy]
      have hy4 : n2 = y.n := by rw [hy]
      have HRY := Lib.hid (show ShareRow w4 Y y.n y.ss y.ms from by rw [hy]; exact hr2.row)
      have hyn : y.n ≤ 1048576 := by rw [hy]; exact hn2
      replace KB := Lib.hid (KB.out.trans (hb.mono KB.out.size))
      replace HBX := Lib.hid (HBX.out.keep hb)
      replace HM := Lib.hid (HM.out.keep hb)
      replace HC := Lib.hid (HC.out.keep hb)
      replace HX := Lib.hid (ShareRow.keep HX.out hb)
      replace HN := Lib.hid (HN.out.keep hb)
      rw [hy0, hy1, hy2, hy3, hy4]
      clear hb r0 r1 r2 r3 r4 heq h2 hr2 hf2 hn2 hy hy0 hy1 hy2 hy3 hy4
      have hb := (Below.refl w4.heap.size w4).alloc (Nat.le_refl _) (.cells #[.string y.id, .int .i64 y.no, .int .i64 y.ma, .int .i64 y.fe, .slice Y y.n cy] 28)
      have HBY := Lib.hid (Blk.new w4 28 #[.string y.id, .int .i64 y.no, .int .i64 y.ma, .int .i64 y.fe, .slice Y y.n cy])
      replace KB := Lib.hid (KB.out.trans (hb.mono KB.out.size))
      replace HBX := Lib.hid (HBX.out.keep hb)
      replace HM := Lib.hid (HM.out.keep hb)
      replace HC := Lib.hid (HC.out.keep hb)
      replace HX := Lib.hid (ShareRow.keep HX.out hb)
      replace HN := Lib.hid (HN.out.keep hb)
      replace HRY := Lib.hid (ShareRow.keep HRY.out hb)
      clear hb
      go_wp2_with fail
      go_at_call 9
      refine (validBells_calls A9 (p + 1) c9 F _ HN.out HFF.out (by unfold maxLen; omega)).mono ?_
      rw [HOKF.out]
      rintro e w5 ⟨rfl, hb⟩
      replace KB := Lib.hid (KB.out.trans (hb.mono KB.out.size))
      replace HBX := Lib.hid (HBX.out.keep hb)
      replace HM := Lib.hid (HM.out.keep hb)
      replace HC := Lib.hid (HC.out.keep hb)
      replace HX := Lib.hid (ShareRow.keep HX.out hb)
      replace HN := Lib.hid (HN.out.keep hb)
      replace HRY := Lib.hid (ShareRow.keep HRY.out hb)
      replace HBY := Lib.hid (HBY.out.keep hb)
      clear hb
      have y0 := (HBY.out.cell 0).trans rfl
      have y1 := (HBY.out.cell 1).trans rfl
      have y2 := (HBY.out.cell 2).trans rfl
      have y3 := (HBY.out.cell 3).trans rfl
      have y4 := (HBY.out.cell 4).trans rfl
      have HZX := Lib.hid (HBX.out.alloc (.cells #[.string y.id, .int .i64 y.no, .int .i64 y.ma, .int .i64 y.fe, .slice Y y.n cy] 28))
      have x0 := (HZX.out.cell 0).trans rfl
      have x1 := (HZX.out.cell 1).trans rfl
      have x2 := (HZX.out.cell 2).trans rfl
      have x3 := (HZX.out.cell 3).trans rfl
      have x4 := (HZX.out.cell 4).trans rfl
      have hb := ((Below.refl w5.heap.size w5).alloc (Nat.le_refl _) (.cells #[.string y.id, .int .i64 y.no, .int .i64 y.ma, .int .i64 y.fe, .slice Y y.n cy] 28)).alloc (by simp) (.cells #[.string x.id, .int .i64 x.no, .int .i64 x.ma, .int .i64 x.fe, .slice X x.n e3] 28)
      have HSB := Lib.hid (SameBells_calls (some ⟨w5.heap.size, 0, none⟩) (some ⟨w5.heap.size + 1, 0, none⟩) 1 1 1 1 (fun _ => y) (fun _ => x) _ (one_bell ((Blk.new w5 28 #[.string y.id, .int .i64 y.no, .int .i64 y.ma, .int .i64 y.fe, .slice Y y.n cy]).alloc (.cells #[.string x.id, .int .i64 x.no, .int .i64 x.ma, .int .i64 x.fe, .slice X x.n e3] 28)) (ShareRow.keep HRY.out hb)) (one_bell (Blk.new2 w5 (.cells #[.string y.id, .int .i64 y.no, .int .i64 y.ma, .int .i64 y.fe, .slice Y y.n cy] 28) 28 #[.string x.id, .int .i64 x.no, .int .i64 x.ma, .int .i64 x.fe, .slice X x.n e3]) (ShareRow.keep HX.out hb)) (fun _ _ => hyn) (fun _ _ => hxn) (by omega) (by omega))
      rw [HSM.out] at HSB
      go_wp2_with fail
      clear y0 y1 y2 y3 y4 x0 x1 x2 x3 x4
      replace KB := Lib.hid (KB.out.trans (hb.mono KB.out.size))
      replace HBX := Lib.hid (HBX.out.keep hb)
      replace HM := Lib.hid (HM.out.keep hb)
      replace HC := Lib.hid (HC.out.keep hb)
      replace HX := Lib.hid (ShareRow.keep HX.out hb)
      replace HN := Lib.hid (HN.out.keep hb)
      clear hb HRY HBY HZX
      go_at_call 10
      refine HSB.out.mono ?_
      rintro e w6 ⟨rfl, hb⟩
      replace KB := Lib.hid (KB.out.trans (hb.mono KB.out.size))
      replace HBX := Lib.hid (HBX.out.keep hb)
      replace HM := Lib.hid (HM.out.keep hb)
      replace HC := Lib.hid (HC.out.keep hb)
      replace HX := Lib.hid (ShareRow.keep HX.out hb)
      replace HN := Lib.hid (HN.out.keep hb)
      clear hb HSB
      go_wp2_with fail
      go_loopw [10] (fun i wr => ∃ k : Nat, k ≤ x.n ∧ i = .int .i64 k ∧ Below w6.heap.size w6 wr) (fun i _ => x.n - (intOf i).toNat)
      case atStart => exact ⟨0, by omega, rfl, Below.refl _ _⟩
      case round =>
        obtain ⟨k, hk, rfl, hbr⟩ := hrel
        have x4 := ((HBX.out.keep hbr).cell 4).trans rfl
        by_cases hlt : k < x.n
        · obtain ⟨bS, oS, rfl, hrS⟩ := HX.out (by omega)
          obtain ⟨d0, d1⟩ := (hrS k hlt).below hbr (Nat.le_refl _)
          obtain ⟨l0, l1, l2⟩ := HLE.out k hlt
          obtain ⟨z, hz⟩ : ∃ z, z = x.ss k := ⟨_, rfl⟩
          obtain ⟨mk, hmk⟩ : ∃ mk, mk = x.ms k := ⟨_, rfl⟩
          have D0 := Lib.hid (show w6.cell? ⟨bS, oS + k * 2, none⟩ = some (.string z) from by rw [hz]; exact (hrS k hlt).1)
          have D1 := Lib.hid (show w6.cell? ⟨bS, oS + k * 2 + 1, none⟩ = some (.int .i64 mk) from by rw [hmk]; exact (hrS k hlt).2)
          rw [← hz] at d0 l0 l1 l2
          rw [← hmk] at d1 l2
          have b1 := HLB.out.1 z
          have b2 := HLB.out.2 z
          obtain ⟨v1, hv1⟩ : ∃ v, v = lfV g q f p z := ⟨_, rfl⟩
          obtain ⟨v2, hv2⟩ : ∃ v, v = lfV g q F (p + 1) z := ⟨_, rfl⟩
          have HL1 := Lib.hid (LeftIn_calls B q d g C p e2 f z wr (HM.out.keep hbr) (by omega) hqd HG.out (HC.out.keep hbr) (by omega) HF.out)
          have HL2 := Lib.hid (fun (W : World) (hb : Below w6.heap.size w6 W) => LeftIn_calls B q d g A9 (p + 1) c9 F z W (HM.out.keep hb) (by omega) hqd HG.out (HN.out.keep hb) (by omega) HFF.out)
          rw [l0, ← hv1] at HL1
          rw [l1, ← hv2] at HL2
          rw [← hv1, ← hv2] at l2
          rw [← hv1] at b1
          rw [← hv2] at b2
          have e9 : IntKind.i64.wrap (v1 - v2) = mk := (IntWalk.i64_in _ ⟨by omega, by omega⟩).trans l2
          clear hrS l0 l1 l2 hz hmk hv1 hv2 b1 b2 d1
          go_wp2_with fail
          go_at_call 11
          refine HL1.out.mono ?_
          rintro e w7 ⟨rfl, hb⟩
          have hbr7 := Lib.hid (hbr.trans (hb.mono hbr.size))
          clear x4 d0 hbr hb HL1
          have x4 := ((HBX.out.keep hbr7.out).cell 4).trans rfl
          have d0 := cell_keep hbr7.out D0.out
          go_wp2_with fail
          go_at_call 11
          refine (HL2.out _ hbr7.out).mono ?_
          rintro e w8 ⟨rfl, hb⟩
          have hbr8 := Lib.hid (hbr7.out.trans (hb.mono hbr7.out.size))
          clear x4 d0 hb HL2 hbr7
          have x4 := ((HBX.out.keep hbr8.out).cell 4).trans rfl
          have d1 := cell_keep hbr8.out D1.out
          go_wp2
          go_roundw
          case rel => exact ⟨k + 1, by omega, by go_num, hbr8.out⟩
          case measure => simp [intOf]; omega
        · obtain rfl : k = x.n := by omega
          go_wp2
          go_ret
          exact ⟨rfl, KB.out.trans (hbr.mono KB.out.size)⟩
theorem own : ownKnob Tryz.prog.godebug = none := by kernel_rfl
theorem laidOut : laidOutB Tryz.prog = true := by kernel_rfl
theorem door_met (os : Os) (args : Array Value) : laidMetH Tryz.prog Rows.fnTracesRow.laid ((World.laidAll Tryz.prog os Rows.fnTracesRow.laid).forCall (fun _ _ => 0) ⟨#[], args, []⟩).memory := by
  rw [MakeChecks.laidMetH_plain _ _ _ (by kernel_rfl)]
  exact laidMet_laidAll _ (by kernel_rfl) (by kernel_rfl)
set_option maxRecDepth 100000 in
theorem lifted (os : Os) (started : os.Started) (H : Type) (enc : TypeId × Value → H) :
    ReturnsInHanded {} Tryz.checked os 3 .any (fun w args => (Rows.fnTracesSpec.pre enc Tryz.prog Tryz.f3 [] false w args ∧ laidMetH Tryz.prog Rows.fnTracesRow.laid w) ∧ sizedMet enc Tryz.prog Tryz.f3 (OpenSpec.ofChange Rows.fnTracesSpec) false w args)
      (Rows.fnTracesSpec.post enc Tryz.prog Tryz.f3 false true false false) := by
  refine handed_shaped (C := Tryz.checked) (X := fun w _ => laidMetH Tryz.prog Rows.fnTracesRow.laid w) (fun _ _ _ hh h => h.of_heap hh) own started (by kernel_rfl) Tryz.func3
    (ChangeSpec.witness_shaped (enc := enc) (C := Tryz.checked) (os := os) (X := fun w _ => laidMetH Tryz.prog Rows.fnTracesRow.laid w) false (World.laidAll Tryz.prog os Rows.fnTracesRow.laid) #[.slice none 0 0] 8 (World.laidAll_os _ _ _) (World.shaped_of_ZipB (by kernel_rfl) (by kernel_rfl)) (by kernel_rfl) (by kernel_rfl) (by kernel_rfl) (door_met os _)) ?_
  intro W base args ds gs before hval0 hW hS hL
  have hval : ∀ (j : Nat) t v, Tryz.f3.params[j]? = some t → args[j]? = some v → Value.okWide Tryz.prog W .any base t v := hval0
  have hW' := hW
  obtain ⟨p, q, hA0, hV, rfl, hfz, hnd⟩ := hW
  have hA : DataW.TrodAll enc Tryz.prog W 0 (fun _ => true) true Tryz.f3.params.toList args.toList ds p := hA0
  rw [Tryz.params3] at hA hval
  obtain ⟨v0, vs0, d0, ds0, p0, q0, hargs, rfl, rfl, h0, r0⟩ := trodAll_cons hA
  obtain ⟨rfl, rfl, rfl⟩ := trodAll_nil r0
  obtain rfl : args = #[v0] := by cases args; simp_all
  obtain ⟨rfl, rfl⟩ := trodVars_none hV
  have k0 := h0
  have lt0 : ∀ x ∈ p0, x.block < W.heap.size := by obtain ⟨m, hm⟩ := k0; exact DataW.trod_lt m _ _ _ hm
  obtain ⟨A0, n0, m0, rfl⟩ := okWide_slice Tryz.underlying22 (hval 0 22 v0 rfl rfl)
  obtain ⟨fu0, hf0⟩ := h0
  obtain ⟨hr0, hn0⟩ := openBytes hf0
  clear hA0 hval0
  refine (walk A0 n0 m0 W hr0 hn0 (hasLib_of hS hL)).mono fun e W' ⟨he, bel⟩ => ?_
  subst he
  exact ⟨_, rfl, _, _, _, [], _, [], hW', trodAll_mk1 (shut_bool Tryz.underlying4 _), (trodAll_cons_mk (Below.trod laidOut (by kernel_rfl) (of_decide_eq_true (by kernel_rfl)) k0 bel lt0) trodAll_mk0), rfl, bel.frame _, fun h => by cases h⟩
theorem said : Rows.FnTracesSaid :=
  OpenClaim.holds_of_wide 3 Tryz.f3 rfl rfl rfl rfl rfl rfl rfl ⟨rfl, rfl, rfl, rfl, rfl⟩ rfl rfl rfl rfl rfl (by kernel_rfl) Tryz.func3 (by kernel_rfl)
    (of_decide_eq_true (by kernel_rfl)) (by unfold Func.isWrapper; first | (rw [if_pos (by decide +kernel)]; kernel_rfl) | (rw [if_neg (by decide +kernel)]; exact ⟨rfl, rfl⟩))
    (fun os started H enc _ => lifted os started H enc)
theorem plain (f : FuncId) (fn : Func) (hf : Tryz.pinned.checked.prog.funcNamed Tryz.f3.name = some f) (hfn : Tryz.pinned.checked.prog.funcs[f]? = some fn) :
    true = Tryz.pinned.checked.prog.looks [] ∧ ∀ (j : Nat) t, fn.params[j]? = some t → Tryz.pinned.checked.prog.wantsStandIn t = false := by
  obtain rfl : f = 3 := Option.some.inj ((show Tryz.prog.funcNamed Tryz.f3.name = some 3 by kernel_rfl).symm.trans hf) |>.symm
  obtain rfl : fn = Tryz.f3 := (Option.some.inj (Tryz.func3.symm.trans hfn)).symm
  refine ⟨by kernel_rfl, fun j t ht => ?_⟩
  rw [Tryz.params3] at ht
  have hm : t ∈ [22] := by simpa using Array.mem_of_getElem? ht
  have hall : ([22].all fun u => !Tryz.prog.wantsStandIn u) = true := by kernel_rfl
  exact (show Tryz.prog.wantsStandIn t = false by simpa using List.all_eq_true.1 hall t hm)
theorem proved : Rows.FnTracesCardSaid :=
  Claim7.holds_tied_plain_at .later [] _ _ _ _ said (fun _ h => by cases h) (by kernel_rfl) (fun _ h => by cases h) fnTraces_row_tie rfl ⟨rfl, rfl⟩ (by kernel_rfl) rfl plain (by kernel_rfl)
end Go.Proofs.YticnpibkpfpojaaGreatDoor.FnTraces
