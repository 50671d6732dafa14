/- FnExactReadBell: the program's ReadBell and the reference's give the same of every text; the library's tables and errors read as its text lays them (tied). -/


import Derived.Test.YtflhkldfhndafaaDoorReadIB
import Derived.Test.YtflhkldfhndafaaDoorMarkS
import Derived.Test.YtflhkldfhndafaaDoorCards
import Derived.Test.YtflhkldfhndafaaDoorTie
import Derived.Test.YtflhkldfhndafaaDoorFrame
import Derived.Test.YtflhkldfhndafaaDoorHand
import Derived.Test.YtflhkldfhndafaaDoorErrRow
import Derived.Test.YtflhkldfhndafaaDoorReadSB
import Derived.Lib.LaidTab
import Derived.LaidMore
import Derived.Lay
import Derived.Stop.Joined
import Derived.Stop.LaidErr
namespace Go.Proofs.YtflhkldfhndafaaDoor.FnExactReadBell
set_option linter.unusedVariables false
open Go.ChangeShapes Go.WideShapes Go.ChangeAt Go.RowKit Go.Deep
open Go.ChangeMaps (open_string shut_string)
theorem hasLib_of {W : World} (hS : W.ShapedOpen Tryd.prog) (h : laidMetH Tryd.prog Rows.fnExactReadBellRow.laid W) : HasLib W := by
  rw [MakeChecks.laidMetH_plain _ _ _ (by kernel_rfl)] at h
  have h3 := laidMet.tail (laidMet.tail h)
  refine ⟨Lib.tabIs_of_head (by kernel_rfl) (by kernel_rfl : (Tryd.prog.globals[3]?).map (·.type) = some 147) Tryd.underlying147 Tryd.underlying116 (by kernel_rfl) (by kernel_rfl) h3, hasMax hS, ?_, ?_⟩
  · obtain ⟨a0, s0, hv0, -⟩ := laid_sentinel (laidMet.tail (laidMet.tail (laidMet.tail h3))) gSyn (by kernel_rfl) Tryd.underlying84 errRow Tryd.underlying143 Tryd.underlying145 rfl rfl Tryd.underlying9 (by kernel_rfl) (by kernel_rfl)
    exact ⟨_, _, hv0⟩
  · obtain ⟨a0, s0, hv0, -⟩ := laid_sentinel (laidMet.tail (laidMet.tail h3)) gRan (by kernel_rfl) Tryd.underlying84 errRow Tryd.underlying143 Tryd.underlying145 rfl rfl Tryd.underlying9 (by kernel_rfl) (by kernel_rfl)
    exact ⟨_, _, hv0⟩
set_option maxRecDepth 20000 in
set_option maxHeartbeats 8000000 in
theorem walk (s : ByteArray) (w : World) (hs : s.size ≤ maxLen) (hL : HasLib w) :
    Calls Tryd.prog 7 #[.string s] w fun e w' => e = .returned (.bool true) ∧ Below w.heap.size w w' := by
  have hB := Below.refl w.heap.size w
  have HL := Lib.hid hL
  clear hL
  by_cases h : (1048576 : Int) < s.size
  · go_enter Tryd.func7, Tryd.ntmps7
    go_wp2
    go_ret
    exact ⟨rfl, hB⟩
  · go_enter Tryd.func7, Tryd.ntmps7
    go_wp2_with fail
    go_at_call 20
    refine (sReadBell_calls s _ (by omega)).mono ?_
    rintro e w1 ⟨id1, no1, ma1, fe1, A1, n1, c1, G1, ss1, ms1, b1, rfl, hr1, hf1, hn1, h1, hb1⟩
    have HH1 := Lib.hid h1
    have hal1 := (Below.refl w1.heap.size w1).alloc (Nat.le_refl _) (.cells #[.string id1, .int .i64 no1, .int .i64 ma1, .int .i64 fe1, .slice A1 n1 c1] 45)
    have kb := Lib.hid (hb1.trans (hal1.mono hb1.size))
    have BW := Lib.hid (Blk.new w1 45 #[.string id1, .int .i64 no1, .int .i64 ma1, .int .i64 fe1, .slice A1 n1 c1])
    have hG1 := Lib.hid (show 0 < n1 → G1 < w1.heap.size from fun h0 => by obtain ⟨-, arr, hk, -⟩ := hr1 h0; exact hk.lt)
    have r1 := Lib.hid (hr1.keep hal1)
    have hz1 := hb1.size
    clear h1 hr1 hal1 hb1
    go_wp2_with fail
    go_at_call 21
    refine (ReadBell_calls s _ (by omega) (HL.out.keep kb.out)).mono ?_
    rintro e w2 ⟨id2, no2, ma2, fe2, A2, n2, c2, G2, ss2, ms2, b2, rfl, hr2, hf2, hn2, h2, hb⟩
    obtain ⟨rfl, rfl, rfl, rfl, rfl, heq, rfl⟩ := bellOut_same HH1.out h2
    have hz2 := hb.size
    simp at hz2
    obtain ⟨G, hrG, hGa, hGb, hGc⟩ : ∃ G, ShareOwn w2 A2 n1 ss2 ms2 G ∧ w1.heap.size < G ∧ G ≠ w2.heap.size ∧ (0 < n1 → G1 ≠ G) := by
      rcases Nat.eq_zero_or_pos n1 with h0 | h0
      · exact ⟨w2.heap.size + 1, fun h => by omega, by omega, by omega, fun h => by omega⟩
      · have h3 := hf2 h0
        simp at h3
        have h4 : G2 < w2.heap.size := by obtain ⟨-, arr, hk, -⟩ := hr2 h0; exact hk.lt
        exact ⟨G2, hr2, by omega, by omega, fun h => by have := hG1.out h; omega⟩
    have r2 := Lib.hid hrG
    clear h2 hr2 hrG hf2 hf1
    replace kb := Lib.hid (kb.out.trans (hb.mono kb.out.size))
    replace BW := Lib.hid (BW.out.keep hb)
    replace r1 := Lib.hid (r1.out.keep hb)
    clear hb
    have hal2 := (Below.refl w2.heap.size w2).alloc (Nat.le_refl _) (.cells #[.string id1, .int .i64 no1, .int .i64 ma1, .int .i64 fe1, .slice A2 n1 c2] 45)
    have BG := Lib.hid (Blk.new w2 45 #[.string id1, .int .i64 no1, .int .i64 ma1, .int .i64 fe1, .slice A2 n1 c2])
    have x0 := (BW.out.cell 0).trans rfl
    have x1 := (BW.out.cell 1).trans rfl
    have x2 := (BW.out.cell 2).trans rfl
    have x3 := (BW.out.cell 3).trans rfl
    have x4 := (BW.out.cell 4).trans rfl
    have hl := BW.out.lt
    go_wp2_with fail
    clear x0 x1 x2 x3 x4 hl
    replace kb := Lib.hid (kb.out.trans (hal2.mono kb.out.size))
    replace BW := Lib.hid (BW.out.keep hal2)
    replace r1 := Lib.hid (r1.out.keep hal2)
    replace r2 := Lib.hid (r2.out.keep hal2)
    clear hal2
    go_at_call 22
    refine (eqBell_calls _ _ _ _ _ _ _ _ _ ss1 ms1 _ (shareRow_eq r2.out.row heq) r1.out.row hn1).mono ?_
    rintro e w3 ⟨rfl, hb⟩
    replace kb := Lib.hid (kb.out.trans (hb.mono kb.out.size)); replace BW := Lib.hid (BW.out.keep hb); (try replace BG := Lib.hid (BG.out.keep hb)); (try replace r1 := Lib.hid (r1.out.keep hb)); (try replace r2 := Lib.hid (r2.out.keep hb)); clear hb
    have y0 := (BG.out.cell 0).trans rfl
    have y1 := (BG.out.cell 1).trans rfl
    have y2 := (BG.out.cell 2).trans rfl
    have y3 := (BG.out.cell 3).trans rfl
    have y4 := (BG.out.cell 4).trans rfl
    have hl2 := BG.out.lt
    go_wp2_with fail
    clear y0 y1 y2 y3 y4 hl2
    go_at_call 23
    refine (markBell_calls _ _ _ _ A2 n1 c2 G ss2 ms2 1 _ r2.out hn1 (Nat.le_refl _) (by omega)).mono ?_
    rintro e w4 ⟨rfl, ho, hg⟩
    replace BW : Hid (Blk w4 w1.heap.size 45 #[.string id1, .int .i64 no1, .int .i64 ma1, .int .i64 fe1, .slice A1 n1 c1]) := Lib.hid ((hg.block _ BW.out.lt (by simp; omega)).trans BW.out)
    replace BG : Hid (Blk w4 w2.heap.size 45 #[.string id1, .int .i64 no1, .int .i64 ma1, .int .i64 fe1, .slice A2 n1 c2]) := Lib.hid ((hg.block _ BG.out.lt (by simp; omega)).trans BG.out)
    replace r1 := Lib.hid (r1.out.grown hg hGc)
    replace kb := Lib.hid (kb.out.grown hg kb.out.size (fun k hk => by injection hk with hk; omega))
    replace r2 := Lib.hid ho
    clear ho hg heq
    have y0 := (BG.out.cell 0).trans rfl
    have y1 := (BG.out.cell 1).trans rfl
    have y2 := (BG.out.cell 2).trans rfl
    have y3 := (BG.out.cell 3).trans rfl
    have y4 := (BG.out.cell 4).trans rfl
    have hl2 := BG.out.lt
    go_wp2_with fail
    clear y0 y1 y2 y3 y4 hl2
    go_at_call 24
    refine (heldBell_calls _ _ _ _ A2 n1 c2 1 _ r2.out.row hn1 (Nat.le_refl _) (by omega)).mono ?_
    rintro e w5 ⟨rfl, hb⟩
    replace kb := Lib.hid (kb.out.trans (hb.mono kb.out.size)); replace BW := Lib.hid (BW.out.keep hb); (try replace BG := Lib.hid (BG.out.keep hb)); (try replace r1 := Lib.hid (r1.out.keep hb)); (try replace r2 := Lib.hid (r2.out.keep hb)); clear hb
    go_wp2_with fail
    go_at_call 21
    refine (ReadBell_calls s _ (by omega) (HL.out.keep kb.out)).mono ?_
    rintro e w6 ⟨id3, no3, ma3, fe3, A3, n3, c3, G3, ss3, ms3, b3, rfl, hr3, hf3, hn3, h3, hb⟩
    obtain ⟨rfl, rfl, rfl, rfl, rfl, heq, rfl⟩ := bellOut_same HH1.out h3
    have r3 := Lib.hid (shareRow_eq hr3.row heq)
    clear hr3 hf3 h3 heq HH1
    replace kb := Lib.hid (kb.out.trans (hb.mono kb.out.size)); replace BW := Lib.hid (BW.out.keep hb); (try replace BG := Lib.hid (BG.out.keep hb)); (try replace r1 := Lib.hid (r1.out.keep hb)); (try replace r2 := Lib.hid (r2.out.keep hb)); clear hb
    have hal3 := (Below.refl w6.heap.size w6).alloc (Nat.le_refl _) (.cells #[.string id1, .int .i64 no1, .int .i64 ma1, .int .i64 fe1, .slice A3 n1 c3] 45)
    have x0 := (BW.out.cell 0).trans rfl
    have x1 := (BW.out.cell 1).trans rfl
    have x2 := (BW.out.cell 2).trans rfl
    have x3 := (BW.out.cell 3).trans rfl
    have x4 := (BW.out.cell 4).trans rfl
    have hl := BW.out.lt
    go_wp2_with fail
    clear x0 x1 x2 x3 x4 hl
    replace kb := Lib.hid (kb.out.trans (hal3.mono kb.out.size))
    replace BW := Lib.hid (BW.out.keep hal3)
    replace BG := Lib.hid (BG.out.keep hal3)
    replace r1 := Lib.hid (r1.out.keep hal3)
    replace r2 := Lib.hid (r2.out.keep hal3)
    replace r3 := Lib.hid (ShareRow.keep r3.out hal3)
    clear hal3
    go_at_call 22
    refine (eqBell_calls _ _ _ _ _ _ _ _ _ ss1 ms1 _ r3.out r1.out.row hn1).mono ?_
    rintro e w7 ⟨rfl, hb⟩
    replace kb := Lib.hid (kb.out.trans (hb.mono kb.out.size)); replace BW := Lib.hid (BW.out.keep hb); (try replace BG := Lib.hid (BG.out.keep hb)); (try replace r1 := Lib.hid (r1.out.keep hb)); (try replace r2 := Lib.hid (r2.out.keep hb)); clear hb
    have y0 := (BG.out.cell 0).trans rfl
    have y1 := (BG.out.cell 1).trans rfl
    have y2 := (BG.out.cell 2).trans rfl
    have y3 := (BG.out.cell 3).trans rfl
    have y4 := (BG.out.cell 4).trans rfl
    have hl2 := BG.out.lt
    go_wp2_with fail
    clear y0 y1 y2 y3 y4 hl2
    go_at_call 24
    refine (heldBell_calls _ _ _ _ A2 n1 c2 1 _ r2.out.row hn1 (Nat.le_refl _) (by omega)).mono ?_
    rintro e w8 ⟨rfl, hb⟩
    replace kb := Lib.hid (kb.out.trans (hb.mono kb.out.size))
    clear hb
    go_wp2
    go_ret
    exact ⟨rfl, kb.out⟩
theorem own : ownKnob Tryd.prog.godebug = none := by kernel_rfl
theorem laidOut : laidOutB Tryd.prog = true := by kernel_rfl
theorem door_met (os : Os) (args : Array Value) : laidMetH Tryd.prog Rows.fnExactReadBellRow.laid ((World.laidAll Tryd.prog os Rows.fnExactReadBellRow.laid).forCall (fun _ _ => 0) ⟨#[], args, []⟩).memory := by
  rw [MakeChecks.laidMetH_plain _ _ _ (by kernel_rfl)]
  exact laidMet_laidAll _ (by kernel_rfl) (by kernel_rfl)
set_option maxRecDepth 100000 in
theorem lifted (os : Os) (started : os.Started) (H : Type) (enc : TypeId × Value → H) :
    ReturnsInHanded {} Tryd.checked os 7 .any (fun w args => (Rows.fnExactReadBellSpec.pre enc Tryd.prog Tryd.f7 [] false w args ∧ laidMetH Tryd.prog Rows.fnExactReadBellRow.laid w) ∧ sizedMet enc Tryd.prog Tryd.f7 (OpenSpec.ofChange Rows.fnExactReadBellSpec) false w args)
      (Rows.fnExactReadBellSpec.post enc Tryd.prog Tryd.f7 false true false false) := by
  refine handed_shaped (C := Tryd.checked) (X := fun w _ => laidMetH Tryd.prog Rows.fnExactReadBellRow.laid w) (fun _ _ _ hh h => h.of_heap hh) own started (by kernel_rfl) Tryd.func7
    (ChangeSpec.witness_shaped (enc := enc) (C := Tryd.checked) (os := os) (X := fun w _ => laidMetH Tryd.prog Rows.fnExactReadBellRow.laid w) false (World.laidAll Tryd.prog os Rows.fnExactReadBellRow.laid) #[.string ⟨#[]⟩] 8 (World.laidAll_os _ _ _) (World.shaped_of_ZipB (by kernel_rfl) (by kernel_rfl)) (by kernel_rfl) (by kernel_rfl) (by kernel_rfl) (door_met os _)) ?_
  intro W base args ds gs before hval0 hW hS hL
  have hval : ∀ (j : Nat) t v, Tryd.f7.params[j]? = some t → args[j]? = some v → Value.okWide Tryd.prog W .any base t v := hval0
  have hW' := hW
  obtain ⟨p, q, hA0, hV, rfl, hfz, hnd⟩ := hW
  have hA : DataW.TrodAll enc Tryd.prog W 0 (fun _ => true) true Tryd.f7.params.toList args.toList ds p := hA0
  rw [Tryd.params7] at hA hval
  obtain ⟨v0, vs0, d0, ds0, p0, q0, hargs, rfl, rfl, h0, r0⟩ := trodAll_cons hA
  obtain ⟨rfl, rfl, rfl⟩ := trodAll_nil r0
  obtain rfl : args = #[v0] := by cases args; simp_all
  obtain ⟨rfl, rfl⟩ := trodVars_none hV
  have k0 := h0
  have lt0 : ∀ x ∈ p0, x.block < W.heap.size := by obtain ⟨m, hm⟩ := k0; exact DataW.trod_lt m _ _ _ hm
  obtain ⟨s0, rfl, _, _, ws0⟩ := open_string Tryd.underlying9 (hval 0 9 v0 rfl rfl) h0
  clear hA0 hval0
  refine (walk s0 W ws0 (hasLib_of hS hL)).mono fun e W' ⟨he, bel⟩ => ?_
  subst he
  exact ⟨_, rfl, _, _, _, [], _, [], hW', trodAll_mk1 (shut_bool Tryd.underlying4 _), (trodAll_cons_mk (Below.trod laidOut (by kernel_rfl) (of_decide_eq_true (by kernel_rfl)) k0 bel lt0) trodAll_mk0), rfl, bel.frame _, fun h => by cases h⟩
theorem said : Rows.FnExactReadBellSaid :=
  OpenClaim.holds_of_wide 7 Tryd.f7 rfl rfl rfl rfl rfl rfl rfl ⟨rfl, rfl, rfl, rfl, rfl⟩ rfl rfl rfl rfl rfl (by kernel_rfl) Tryd.func7 (by kernel_rfl)
    (of_decide_eq_true (by kernel_rfl)) (by unfold Func.isWrapper; first | (rw [if_pos (by decide +kernel)]; kernel_rfl) | (rw [if_neg (by decide +kernel)]; exact ⟨rfl, rfl⟩))
    (fun os started H enc _ => lifted os started H enc)
theorem plain (f : FuncId) (fn : Func) (hf : Tryd.pinned.checked.prog.funcNamed Tryd.f7.name = some f) (hfn : Tryd.pinned.checked.prog.funcs[f]? = some fn) :
    true = Tryd.pinned.checked.prog.looks [] ∧ ∀ (j : Nat) t, fn.params[j]? = some t → Tryd.pinned.checked.prog.wantsStandIn t = false := by
  obtain rfl : f = 7 := Option.some.inj ((show Tryd.prog.funcNamed Tryd.f7.name = some 7 by kernel_rfl).symm.trans hf) |>.symm
  obtain rfl : fn = Tryd.f7 := (Option.some.inj (Tryd.func7.symm.trans hfn)).symm
  refine ⟨by kernel_rfl, fun j t ht => ?_⟩
  rw [Tryd.params7] at ht
  have hm : t ∈ [9] := by simpa using Array.mem_of_getElem? ht
  have hall : ([9].all fun u => !Tryd.prog.wantsStandIn u) = true := by kernel_rfl
  exact (show Tryd.prog.wantsStandIn t = false by simpa using List.all_eq_true.1 hall t hm)
theorem proved : Rows.FnExactReadBellCardSaid :=
  Claim7.holds_tied_plain_at .later [] _ _ _ _ said (fun _ h => by cases h) (by kernel_rfl) (fun _ h => by cases h) fnExactReadBell_row_tie rfl ⟨rfl, rfl⟩ (by kernel_rfl) rfl plain (by kernel_rfl)
end Go.Proofs.YtflhkldfhndafaaDoor.FnExactReadBell
