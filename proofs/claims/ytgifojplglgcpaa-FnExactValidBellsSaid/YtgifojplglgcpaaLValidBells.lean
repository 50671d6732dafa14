/- FnExactValidBells: the program's ValidBells and the reference's give the same of every list of bells. No further condition. -/


import Derived.Test.YtgifojplglgcpaaRows
import Derived.Test.YtgifojplglgcpaaFrame
import Derived.Test.YtgifojplglgcpaaBellsOp
namespace Go.Proofs.Ytgifojplglgcpaa.FnExactValidBells
set_option linter.unusedVariables false
open Go.ChangeShapes Go.WideShapes Go.ChangeAt Go.RowKit Go.Deep
open Go.ChangeMaps (open_string shut_string)
set_option maxHeartbeats 4000000 in
theorem walk (A : Option Addr) (n c : Nat) (f : Nat → BellV) (w : World) (hr : BellRow w A n f) (hn : n ≤ maxLen) (hft : ∀ i, i < n → Fit (f i)) :
    Calls Try.prog 13 #[.slice A n c] w fun e w' => e = .returned (.bool true) ∧ Below w.heap.size w w' := by
  have HF := Lib.hid hft
  have r1 := Lib.hid hr
  have k1 := Lib.hid (Below.refl w.heap.size w)
  clear hr hft
  by_cases hbig : (1048576 : Int) < (n : Int) + sumB f n
  · go_enter Try.func13, Try.ntmps13
    go_wp2_with (go_at_call 59; refine (szBellS_calls _ _ _ _ _ _ r1.out HF.out hn (by omega) (by omega)).mono ?_; rw [if_pos hbig]; rintro e w1 ⟨rfl, hb⟩)
    go_ret
    exact ⟨rfl, hb⟩
  · have hn2 : n ≤ 1048576 := by omega
    have HG := Lib.hid (fine_of HF.out (by omega))
    have HN := Lib.hid (show ∀ i, i < n → (f i).n ≤ 1048576 from fun i hi => (HG.out i hi).2.2)
    go_enter Try.func13, Try.ntmps13
    go_wp2_with (go_at_call 59; refine (szBellS_calls _ _ _ _ _ _ r1.out HF.out hn (by omega) (by omega)).mono ?_; rw [if_neg hbig]; rintro e w1 ⟨rfl, hb⟩; have k2 := Lib.hid (k1.out.trans (hb.mono k1.out.size)); have r2 := Lib.hid (r1.out.keep hb); clear k1 r1; have k1 := k2; have r1 := r2; clear k2 r2; clear hb)
    go_at_call 61
    refine (toBellS_calls _ _ _ _ _ r1.out HN.out hn2).mono ?_
    rintro e w2 ⟨rfl, hb, hgt, hc⟩
    have k2 := Lib.hid (k1.out.trans (hb.mono k1.out.size)); have r2 := Lib.hid (r1.out.keep hb); clear k1 r1; have k1 := k2; have r1 := r2; clear k2 r2
    clear hb
    go_wp2_with fail
    go_at_call 60
    refine (sValidBells_calls _ _ _ _ _ hc HG.out hn).mono ?_
    rintro e w3 ⟨rfl, nd, rfl⟩
    have k3 := Lib.hid (below_drewN k1.out nd)
    have r3 : Hid (BellRow (w2.drewN nd) A n f) := r1
    clear k1 r1 hc
    have k1 := k3
    have r1 := r3
    clear k3 r3
    go_wp2_with fail
    go_at_call 61
    refine (toBellS_calls _ _ _ _ _ r1.out HN.out hn2).mono ?_
    rintro e w4 ⟨rfl, hb, hgt2, hc⟩
    have k2 := Lib.hid (k1.out.trans (hb.mono k1.out.size)); have r2 := Lib.hid (r1.out.keep hb); clear k1 r1; have k1 := k2; have r1 := r2; clear k2 r2
    clear hb
    have hc2 := Lib.hid hc
    clear hc
    go_wp2_with fail
    go_at_call 62
    refine (ValidBells_calls _ _ _ _ _ hc2.out HG.out hn).mono ?_
    rintro e w5 ⟨rfl, hb⟩
    have hc3 := Lib.hid (hc2.out.keep hb)
    have k2 := Lib.hid (k1.out.trans (hb.mono k1.out.size)); have r2 := Lib.hid (r1.out.keep hb); clear k1 r1; have k1 := k2; have r1 := r2; clear k2 r2
    clear hb hc2
    go_wp2_with fail
    go_at_call 61
    refine (toBellS_calls _ _ _ _ _ r1.out HN.out hn2).mono ?_
    rintro e w6 ⟨rfl, hb, hgt3, hc⟩
    have hc4 := Lib.hid (hc3.out.keep hb)
    have k2 := Lib.hid (k1.out.trans (hb.mono k1.out.size)); have r2 := Lib.hid (r1.out.keep hb); clear k1 r1; have k1 := k2; have r1 := r2; clear k2 r2
    clear hb hc3
    go_wp2_with fail
    go_at_call 63
    refine (eqBellS_calls _ _ _ _ _ _ _ hc4.out hc HN.out hn2).mono ?_
    rintro e w7 ⟨rfl, hb⟩
    have k2 := Lib.hid (k1.out.trans (hb.mono k1.out.size)); have r2 := Lib.hid (r1.out.keep hb); clear k1 r1; have k1 := k2; have r1 := r2; clear k2 r2
    clear hb hc hc4
    go_wp2
    go_ret
    exact ⟨rfl, k1.out⟩
theorem own : ownKnob Try.prog.godebug = none := by kernel_rfl
theorem laidOut : laidOutB Try.prog = true := by kernel_rfl
set_option maxRecDepth 100000 in
theorem lifted (os : Os) (started : os.Started) (H : Type) (enc : TypeId × Value → H) :
    ReturnsInHanded {} Try.checked os 13 .any (Rows.fnExactValidBellsSpec.pre6 enc Try.prog Try.f13 Rows.fnExactValidBellsRow.domain false) (Rows.fnExactValidBellsSpec.post enc Try.prog Try.f13 false true false false) := by
  refine returnsInHanded_of_change (C := Try.checked) own started (by kernel_rfl) Try.func13
    (ChangeSpec.witness6 (enc := enc) (C := Try.checked) false ⟨#[], #[.slice none 0 0], []⟩ 8 (by kernel_rfl) (by kernel_rfl) (by kernel_rfl) (by kernel_rfl)) ?_
  intro W base args ds gs before hval0 hW hcnd _
  have hval : ∀ (j : Nat) t v, Try.f13.params[j]? = some t → args[j]? = some v → Value.okWide Try.prog W .any base t v := hval0
  have hW' := hW
  obtain ⟨p, q, hA0, hV, rfl, hfz, hnd⟩ := hW
  have hA : DataW.TrodAll enc Try.prog W 0 (fun _ => true) true Try.f13.params.toList args.toList ds p := hA0
  rw [Try.params13] at hA hval
  obtain ⟨v0, vs0, d0, ds0, p0, q0, hargs, rfl, rfl, h0, r0⟩ := trodAll_cons hA
  obtain ⟨rfl, rfl, rfl⟩ := trodAll_nil r0
  obtain rfl : args = #[v0] := by cases args; simp_all
  obtain ⟨rfl, rfl⟩ := trodVars_none hV
  have k0 := h0
  have lt0 : ∀ x ∈ p0, x.block < W.heap.size := by obtain ⟨m, hm⟩ := k0; exact DataW.trod_lt m _ _ _ hm
  obtain ⟨A0, n0, m0, rfl⟩ := okWide_slice Try.underlying83 (hval 0 83 v0 rfl rfl)
  obtain ⟨fu0, hf0⟩ := h0
  obtain ⟨f0, hr0, hn0, hft0⟩ := openBellS hf0
  clear hA0 hval0
  refine (walk A0 n0 m0 f0 W hr0 hn0 hft0).mono fun e W' ⟨he, bel⟩ => ?_
  subst he
  exact ⟨_, rfl, _, _, _, [], _, [], hW', trodAll_mk1 (shut_bool Try.underlying4 _), (trodAll_cons_mk (Below.trod laidOut (by kernel_rfl) (of_decide_eq_true (by kernel_rfl)) k0 bel lt0) trodAll_mk0), rfl, bel.frame _, fun h => by cases h⟩
set_option maxHeartbeats 20000000 in
theorem closed : joinedFacts Try.pinned.checked.prog 13 Try.f13 Rows.fnExactValidBellsSpec Rows.fnExactValidBellsRow = true := by
  unfold joinedFacts
  simp only [Bool.and_eq_true]
  and_intros
  all_goals (as_aux_lemma => kernel_rfl)
theorem proved : Rows.FnExactValidBellsSaid :=
  OpenClaim.holds_of_wide 13 Try.f13 rfl rfl rfl rfl rfl rfl rfl ⟨rfl, rfl, rfl, rfl, rfl⟩ rfl rfl rfl rfl rfl (by kernel_rfl) Try.func13 closed
    (of_decide_eq_true (by kernel_rfl)) (by unfold Func.isWrapper; first | (rw [if_pos (by decide +kernel)]; kernel_rfl) | (rw [if_neg (by decide +kernel)]; exact ⟨rfl, rfl⟩))
    (fun os started H enc _ => lifted os started H enc)
end Go.Proofs.Ytgifojplglgcpaa.FnExactValidBells
