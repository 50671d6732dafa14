/- FnExactReadHung: the program's ReadHung and the reference's give the same of every text; the library's tables and errors read as its text lays them (tied). -/


import Derived.Test.YtflhkldfhndafaaDoorCards
import Derived.Test.YtflhkldfhndafaaDoorTie
import Derived.Test.YtflhkldfhndafaaDoorFrame
import Derived.Test.YtflhkldfhndafaaDoorHand
import Derived.Test.YtflhkldfhndafaaDoorErrRow
import Derived.Test.YtflhkldfhndafaaDoorReadIU
import Derived.Lib.LaidTab
import Derived.LaidMore
import Derived.Lay
import Derived.Stop.Joined
import Derived.Stop.LaidErr
namespace Go.Proofs.YtflhkldfhndafaaDoor.FnExactReadHung
set_option linter.unusedVariables false
open Go.ChangeShapes Go.WideShapes Go.ChangeAt Go.RowKit Go.Deep
open Go.ChangeMaps (open_string shut_string)
theorem hasLib_of {W : World} (hS : W.ShapedOpen Tryd.prog) (h : laidMetH Tryd.prog Rows.fnExactReadHungRow.laid W) : HasLib W := by
  rw [MakeChecks.laidMetH_plain _ _ _ (by kernel_rfl)] at h
  have h3 := laidMet.tail (laidMet.tail h)
  refine ⟨Lib.tabIs_of_head (by kernel_rfl) (by kernel_rfl : (Tryd.prog.globals[3]?).map (·.type) = some 147) Tryd.underlying147 Tryd.underlying116 (by kernel_rfl) (by kernel_rfl) h3, hasMax hS, ?_, ?_⟩
  · obtain ⟨a0, s0, hv0, -⟩ := laid_sentinel (laidMet.tail (laidMet.tail (laidMet.tail h3))) gSyn (by kernel_rfl) Tryd.underlying84 errRow Tryd.underlying143 Tryd.underlying145 rfl rfl Tryd.underlying9 (by kernel_rfl) (by kernel_rfl)
    exact ⟨_, _, hv0⟩
  · obtain ⟨a0, s0, hv0, -⟩ := laid_sentinel (laidMet.tail (laidMet.tail h3)) gRan (by kernel_rfl) Tryd.underlying84 errRow Tryd.underlying143 Tryd.underlying145 rfl rfl Tryd.underlying9 (by kernel_rfl) (by kernel_rfl)
    exact ⟨_, _, hv0⟩
set_option maxRecDepth 20000 in
set_option maxHeartbeats 4000000 in
theorem walk (s : ByteArray) (w : World) (hs : s.size ≤ maxLen) (hL : HasLib w) :
    Calls Tryd.prog 5 #[.string s] w fun e w' => e = .returned (.bool true) ∧ Below w.heap.size w w' := by
  have hB := Below.refl w.heap.size w
  have HL := Lib.hid hL
  clear hL
  by_cases h : (1048576 : Int) < s.size
  · go_enter Tryd.func5, Tryd.ntmps5
    go_wp2
    go_ret
    exact ⟨rfl, hB⟩
  · go_enter Tryd.func5, Tryd.ntmps5
    go_wp2_with fail
    go_at_call 14
    refine (sReadHung_calls s _ (by omega)).mono ?_
    rintro e w1 ⟨n1, m1, r1, d1, q1, b1, rfl, h1, hb1⟩
    have HH1 := Lib.hid h1
    have hz1 := hb1.size
    have hb1' := hb1.alloc hz1 (.cells #[.string n1, .int .i64 m1, .int .i64 r1, .int .i64 d1, .int .i64 q1] 34)
    have G1 := Blk.new w1 34 #[.string n1, .int .i64 m1, .int .i64 r1, .int .i64 d1, .int .i64 q1]
    clear h1
    go_wp2_with fail
    go_at_call 15
    refine (ReadHung_calls s _ (by omega) (HL.out.keep (by first | exact hb1' | exact hb1))).mono ?_
    rintro e w2 ⟨n2, m2, r2, d2, q2, b2, rfl, h2, hb2⟩
    obtain ⟨rfl, rfl, rfl, rfl, rfl, rfl⟩ := hungP_same HH1.out h2
    have G2 := G1.keep hb2
    have hb3 := hb1'.trans (hb2.mono hb1'.size)
    have x0 := (G2.cell 0).trans rfl
    have x1 := (G2.cell 1).trans rfl
    have x2 := (G2.cell 2).trans rfl
    have x3 := (G2.cell 3).trans rfl; have x4 := (G2.cell 4).trans rfl
    have hl := G2.lt
    clear hb2 hb1 hb1' G1 HH1 h2
    go_wp2_with (first | (go_at_call 16; refine (eqHung_calls _ _ _ _ _ _).mono ?_; rintro e w3 ⟨rfl, hb4⟩))
    go_ret
    exact ⟨rfl, (hb3.alloc hb3.size _).trans (hb4.mono (hb3.alloc hb3.size _).size)⟩
theorem own : ownKnob Tryd.prog.godebug = none := by kernel_rfl
theorem laidOut : laidOutB Tryd.prog = true := by kernel_rfl
theorem door_met (os : Os) (args : Array Value) : laidMetH Tryd.prog Rows.fnExactReadHungRow.laid ((World.laidAll Tryd.prog os Rows.fnExactReadHungRow.laid).forCall (fun _ _ => 0) ⟨#[], args, []⟩).memory := by
  rw [MakeChecks.laidMetH_plain _ _ _ (by kernel_rfl)]
  exact laidMet_laidAll _ (by kernel_rfl) (by kernel_rfl)
set_option maxRecDepth 100000 in
theorem lifted (os : Os) (started : os.Started) (H : Type) (enc : TypeId × Value → H) :
    ReturnsInHanded {} Tryd.checked os 5 .any (fun w args => (Rows.fnExactReadHungSpec.pre enc Tryd.prog Tryd.f5 [] false w args ∧ laidMetH Tryd.prog Rows.fnExactReadHungRow.laid w) ∧ sizedMet enc Tryd.prog Tryd.f5 (OpenSpec.ofChange Rows.fnExactReadHungSpec) false w args)
      (Rows.fnExactReadHungSpec.post enc Tryd.prog Tryd.f5 false true false false) := by
  refine handed_shaped (C := Tryd.checked) (X := fun w _ => laidMetH Tryd.prog Rows.fnExactReadHungRow.laid w) (fun _ _ _ hh h => h.of_heap hh) own started (by kernel_rfl) Tryd.func5
    (ChangeSpec.witness_shaped (enc := enc) (C := Tryd.checked) (os := os) (X := fun w _ => laidMetH Tryd.prog Rows.fnExactReadHungRow.laid w) false (World.laidAll Tryd.prog os Rows.fnExactReadHungRow.laid) #[.string ⟨#[]⟩] 8 (World.laidAll_os _ _ _) (World.shaped_of_ZipB (by kernel_rfl) (by kernel_rfl)) (by kernel_rfl) (by kernel_rfl) (by kernel_rfl) (door_met os _)) ?_
  intro W base args ds gs before hval0 hW hS hL
  have hval : ∀ (j : Nat) t v, Tryd.f5.params[j]? = some t → args[j]? = some v → Value.okWide Tryd.prog W .any base t v := hval0
  have hW' := hW
  obtain ⟨p, q, hA0, hV, rfl, hfz, hnd⟩ := hW
  have hA : DataW.TrodAll enc Tryd.prog W 0 (fun _ => true) true Tryd.f5.params.toList args.toList ds p := hA0
  rw [Tryd.params5] at hA hval
  obtain ⟨v0, vs0, d0, ds0, p0, q0, hargs, rfl, rfl, h0, r0⟩ := trodAll_cons hA
  obtain ⟨rfl, rfl, rfl⟩ := trodAll_nil r0
  obtain rfl : args = #[v0] := by cases args; simp_all
  obtain ⟨rfl, rfl⟩ := trodVars_none hV
  have k0 := h0
  have lt0 : ∀ x ∈ p0, x.block < W.heap.size := by obtain ⟨m, hm⟩ := k0; exact DataW.trod_lt m _ _ _ hm
  obtain ⟨s0, rfl, _, _, ws0⟩ := open_string Tryd.underlying9 (hval 0 9 v0 rfl rfl) h0
  clear hA0 hval0
  refine (walk s0 W ws0 (hasLib_of hS hL)).mono fun e W' ⟨he, bel⟩ => ?_
  subst he
  exact ⟨_, rfl, _, _, _, [], _, [], hW', trodAll_mk1 (shut_bool Tryd.underlying4 _), (trodAll_cons_mk (Below.trod laidOut (by kernel_rfl) (of_decide_eq_true (by kernel_rfl)) k0 bel lt0) trodAll_mk0), rfl, bel.frame _, fun h => by cases h⟩
theorem said : Rows.FnExactReadHungSaid :=
  OpenClaim.holds_of_wide 5 Tryd.f5 rfl rfl rfl rfl rfl rfl rfl ⟨rfl, rfl, rfl, rfl, rfl⟩ rfl rfl rfl rfl rfl (by kernel_rfl) Tryd.func5 (by kernel_rfl)
    (of_decide_eq_true (by kernel_rfl)) (by unfold Func.isWrapper; first | (rw [if_pos (by decide +kernel)]; kernel_rfl) | (rw [if_neg (by decide +kernel)]; exact ⟨rfl, rfl⟩))
    (fun os started H enc _ => lifted os started H enc)
theorem plain (f : FuncId) (fn : Func) (hf : Tryd.pinned.checked.prog.funcNamed Tryd.f5.name = some f) (hfn : Tryd.pinned.checked.prog.funcs[f]? = some fn) :
    true = Tryd.pinned.checked.prog.looks [] ∧ ∀ (j : Nat) t, fn.params[j]? = some t → Tryd.pinned.checked.prog.wantsStandIn t = false := by
  obtain rfl : f = 5 := Option.some.inj ((show Tryd.prog.funcNamed Tryd.f5.name = some 5 by kernel_rfl).symm.trans hf) |>.symm
  obtain rfl : fn = Tryd.f5 := (Option.some.inj (Tryd.func5.symm.trans hfn)).symm
  refine ⟨by kernel_rfl, fun j t ht => ?_⟩
  rw [Tryd.params5] at ht
  have hm : t ∈ [9] := by simpa using Array.mem_of_getElem? ht
  have hall : ([9].all fun u => !Tryd.prog.wantsStandIn u) = true := by kernel_rfl
  exact (show Tryd.prog.wantsStandIn t = false by simpa using List.all_eq_true.1 hall t hm)
theorem proved : Rows.FnExactReadHungCardSaid :=
  Claim7.holds_tied_plain_at .later [] _ _ _ _ said (fun _ h => by cases h) (by kernel_rfl) (fun _ h => by cases h) fnExactReadHung_row_tie rfl ⟨rfl, rfl⟩ (by kernel_rfl) rfl plain (by kernel_rfl)
end Go.Proofs.YtflhkldfhndafaaDoor.FnExactReadHung
