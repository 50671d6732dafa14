/- FnExactSameBells: the program's SameBells and the reference's give the same of every two lists of bells. No further condition. -/
import Derived.Test.YtgifojplglgcpaaSame


import Derived.Test.YtgifojplglgcpaaRows
import Derived.Test.YtgifojplglgcpaaFrame
import Derived.Test.YtgifojplglgcpaaBellsOp
namespace Go.Proofs.Ytgifojplglgcpaa.FnExactSameBells
set_option linter.unusedVariables false
open Go.ChangeShapes Go.WideShapes Go.ChangeAt Go.RowKit Go.Deep
open Go.ChangeMaps (open_string shut_string)
set_option maxHeartbeats 4000000 in
theorem walk (A : Option Addr) (n c : Nat) (f : Nat → BellV) (B : Option Addr) (m d : Nat) (g : Nat → BellV) (w : World) (hr : BellRow w A n f) (hn : n ≤ maxLen) (hft : ∀ i, i < n → Fit (f i)) (hs : BellRow w B m g) (hm : m ≤ maxLen) (hgt : ∀ i, i < m → Fit (g i)) :
    Calls Try.prog 14 #[.slice A n c, .slice B m d] w fun e w' => e = .returned (.bool true) ∧ Below w.heap.size w w' := by
  have HF := Lib.hid hft
  have HG := Lib.hid hgt
  have r1 := Lib.hid hr
  have s1 := Lib.hid hs
  have k1 := Lib.hid (Below.refl w.heap.size w)
  clear hr hft hs hgt
  by_cases hbig : (1048576 : Int) < (n : Int) + sumB f n
  · go_enter Try.func14, Try.ntmps14
    go_wp2_with fail
    go_at_call 59
    refine (szBellS_calls _ _ _ _ _ _ r1.out HF.out hn (by omega) (by omega)).mono ?_
    rw [if_pos (by omega)]
    rintro e w1 ⟨rfl, hb⟩
    have k2 := Lib.hid (k1.out.trans (hb.mono k1.out.size)); have r2 := Lib.hid (r1.out.keep hb); have s2 := Lib.hid (s1.out.keep hb); clear k1 r1 s1; have k1 := k2; have r1 := r2; have s1 := s2; clear k2 r2 s2
    clear hb
    go_wp2
    go_ret
    exact ⟨rfl, k1.out⟩
  · by_cases hbig2 : (1048576 : Int) - ((n : Int) + sumB f n) < (m : Int) + sumB g m
    · go_enter Try.func14, Try.ntmps14
      go_wp2_with fail
      go_at_call 59
      refine (szBellS_calls _ _ _ _ _ _ r1.out HF.out hn (by omega) (by omega)).mono ?_
      rw [if_neg (by omega)]
      rintro e w1 ⟨rfl, hb⟩
      have k2 := Lib.hid (k1.out.trans (hb.mono k1.out.size)); have r2 := Lib.hid (r1.out.keep hb); have s2 := Lib.hid (s1.out.keep hb); clear k1 r1 s1; have k1 := k2; have r1 := r2; have s1 := s2; clear k2 r2 s2
      clear hb
      go_wp2_with fail
      go_at_call 59
      refine (szBellS_calls _ _ _ _ _ _ s1.out HG.out hm (by omega) (by omega)).mono ?_
      rw [if_pos (by omega)]
      rintro e w1 ⟨rfl, hb⟩
      have k2 := Lib.hid (k1.out.trans (hb.mono k1.out.size)); have r2 := Lib.hid (r1.out.keep hb); have s2 := Lib.hid (s1.out.keep hb); clear k1 r1 s1; have k1 := k2; have r1 := r2; have s1 := s2; clear k2 r2 s2
      clear hb
      go_wp2
      go_ret
      exact ⟨rfl, k1.out⟩
    · have hn2 : n ≤ 1048576 := by omega
      have hm2 : m ≤ 1048576 := by omega
      have HN := Lib.hid (show ∀ i, i < n → (f i).n ≤ 1048576 from fun i hi => (fine_of HF.out (by omega) i hi).2.2)
      have HM := Lib.hid (show ∀ i, i < m → (g i).n ≤ 1048576 from fun i hi => (fine_of HG.out (by omega) i hi).2.2)
      go_enter Try.func14, Try.ntmps14
      go_wp2_with fail
      go_at_call 59
      refine (szBellS_calls _ _ _ _ _ _ r1.out HF.out hn (by omega) (by omega)).mono ?_
      rw [if_neg (by omega)]
      rintro e w1 ⟨rfl, hb⟩
      have k2 := Lib.hid (k1.out.trans (hb.mono k1.out.size)); have r2 := Lib.hid (r1.out.keep hb); have s2 := Lib.hid (s1.out.keep hb); clear k1 r1 s1; have k1 := k2; have r1 := r2; have s1 := s2; clear k2 r2 s2
      clear hb
      go_wp2_with fail
      go_at_call 59
      refine (szBellS_calls _ _ _ _ _ _ s1.out HG.out hm (by omega) (by omega)).mono ?_
      rw [if_neg (by omega)]
      rintro e w1 ⟨rfl, hb⟩
      have k2 := Lib.hid (k1.out.trans (hb.mono k1.out.size)); have r2 := Lib.hid (r1.out.keep hb); have s2 := Lib.hid (s1.out.keep hb); clear k1 r1 s1; have k1 := k2; have r1 := r2; have s1 := s2; clear k2 r2 s2
      clear hb
      go_wp2_with fail
      go_at_call 61
      refine (toBellS_calls _ _ _ _ _ r1.out HN.out hn2).mono ?_
      rintro e w3 ⟨rfl, hb, hgt, hc⟩
      skip
      have k2 := Lib.hid (k1.out.trans (hb.mono k1.out.size)); have r2 := Lib.hid (r1.out.keep hb); have s2 := Lib.hid (s1.out.keep hb); clear k1 r1 s1; have k1 := k2; have r1 := r2; have s1 := s2; clear k2 r2 s2
      clear hb hgt
      have a1 := Lib.hid hc
      clear hc
      go_wp2_with fail
      go_at_call 61
      refine (toBellS_calls _ _ _ _ _ s1.out HM.out hm2).mono ?_
      rintro e w4 ⟨rfl, hb, hgt, hc⟩
      have a2 := Lib.hid (a1.out.keep hb); clear a1
      have k2 := Lib.hid (k1.out.trans (hb.mono k1.out.size)); have r2 := Lib.hid (r1.out.keep hb); have s2 := Lib.hid (s1.out.keep hb); clear k1 r1 s1; have k1 := k2; have r1 := r2; have s1 := s2; clear k2 r2 s2
      clear hb hgt
      have b2 := Lib.hid hc
      clear hc
      go_wp2_with fail
      go_at_call 64
      refine (sSameBells_calls _ _ _ _ _ _ _ _ _ a2.out b2.out HN.out HM.out hn2 hm2).mono ?_
      rintro e w5 ⟨rfl, nd, rfl⟩
      have k3 := Lib.hid (below_drewN k1.out nd)
      have r3 : Hid (BellRow (w4.drewN nd) A n f) := r1
      have s3 : Hid (BellRow (w4.drewN nd) B m g) := s1
      clear k1 r1 s1 a2 b2
      have k1 := k3
      have r1 := r3
      have s1 := s3
      clear k3 r3 s3
      go_wp2_with fail
      go_at_call 61
      refine (toBellS_calls _ _ _ _ _ r1.out HN.out hn2).mono ?_
      rintro e w6 ⟨rfl, hb, hgt, hc⟩
      skip
      have k2 := Lib.hid (k1.out.trans (hb.mono k1.out.size)); have r2 := Lib.hid (r1.out.keep hb); have s2 := Lib.hid (s1.out.keep hb); clear k1 r1 s1; have k1 := k2; have r1 := r2; have s1 := s2; clear k2 r2 s2
      clear hb hgt
      have a3 := Lib.hid hc
      clear hc
      go_wp2_with fail
      go_at_call 61
      refine (toBellS_calls _ _ _ _ _ s1.out HM.out hm2).mono ?_
      rintro e w7 ⟨rfl, hb, hgt, hc⟩
      have a4 := Lib.hid (a3.out.keep hb); clear a3
      have k2 := Lib.hid (k1.out.trans (hb.mono k1.out.size)); have r2 := Lib.hid (r1.out.keep hb); have s2 := Lib.hid (s1.out.keep hb); clear k1 r1 s1; have k1 := k2; have r1 := r2; have s1 := s2; clear k2 r2 s2
      clear hb hgt
      have b4 := Lib.hid hc
      clear hc
      go_wp2_with fail
      go_at_call 65
      refine (SameBells_calls _ _ _ _ _ _ _ _ _ a4.out b4.out HN.out HM.out hn2 hm2).mono ?_
      rintro e w8 ⟨rfl, hb⟩
      have a5 := Lib.hid (a4.out.keep hb)
      have b5 := Lib.hid (b4.out.keep hb)
      have k2 := Lib.hid (k1.out.trans (hb.mono k1.out.size)); have r2 := Lib.hid (r1.out.keep hb); have s2 := Lib.hid (s1.out.keep hb); clear k1 r1 s1; have k1 := k2; have r1 := r2; have s1 := s2; clear k2 r2 s2
      clear hb a4 b4
      go_wp2_with fail
      go_at_call 61
      refine (toBellS_calls _ _ _ _ _ r1.out HN.out hn2).mono ?_
      rintro e w9 ⟨rfl, hb, hgt, hc⟩
      have a6 := Lib.hid (a5.out.keep hb); have b6 := Lib.hid (b5.out.keep hb); clear a5 b5
      have k2 := Lib.hid (k1.out.trans (hb.mono k1.out.size)); have r2 := Lib.hid (r1.out.keep hb); have s2 := Lib.hid (s1.out.keep hb); clear k1 r1 s1; have k1 := k2; have r1 := r2; have s1 := s2; clear k2 r2 s2
      clear hb hgt
      have c6 := Lib.hid hc
      clear hc
      go_wp2_with fail
      go_at_call 63
      refine (eqBellS_calls _ _ _ _ _ _ _ a6.out c6.out HN.out hn2).mono ?_
      rintro e w10 ⟨rfl, hb⟩
      have b7 := Lib.hid (b6.out.keep hb)
      have k2 := Lib.hid (k1.out.trans (hb.mono k1.out.size)); have r2 := Lib.hid (r1.out.keep hb); have s2 := Lib.hid (s1.out.keep hb); clear k1 r1 s1; have k1 := k2; have r1 := r2; have s1 := s2; clear k2 r2 s2
      clear hb a6 b6 c6
      go_wp2_with fail
      go_at_call 61
      refine (toBellS_calls _ _ _ _ _ s1.out HM.out hm2).mono ?_
      rintro e w11 ⟨rfl, hb, hgt, hc⟩
      have b8 := Lib.hid (b7.out.keep hb); clear b7
      have k2 := Lib.hid (k1.out.trans (hb.mono k1.out.size)); have r2 := Lib.hid (r1.out.keep hb); have s2 := Lib.hid (s1.out.keep hb); clear k1 r1 s1; have k1 := k2; have r1 := r2; have s1 := s2; clear k2 r2 s2
      clear hb hgt
      have c8 := Lib.hid hc
      clear hc
      go_wp2_with fail
      go_at_call 63
      refine (eqBellS_calls _ _ _ _ _ _ _ b8.out c8.out HM.out hm2).mono ?_
      rintro e w12 ⟨rfl, hb⟩
      have k2 := Lib.hid (k1.out.trans (hb.mono k1.out.size)); have r2 := Lib.hid (r1.out.keep hb); have s2 := Lib.hid (s1.out.keep hb); clear k1 r1 s1; have k1 := k2; have r1 := r2; have s1 := s2; clear k2 r2 s2
      clear hb
      go_wp2
      go_ret
      exact ⟨rfl, k1.out⟩
theorem own : ownKnob Try.prog.godebug = none := by kernel_rfl
theorem laidOut : laidOutB Try.prog = true := by kernel_rfl
set_option maxRecDepth 100000 in
theorem lifted (os : Os) (started : os.Started) (H : Type) (enc : TypeId × Value → H) :
    ReturnsInHanded {} Try.checked os 14 .any (Rows.fnExactSameBellsSpec.pre6 enc Try.prog Try.f14 Rows.fnExactSameBellsRow.domain false) (Rows.fnExactSameBellsSpec.post enc Try.prog Try.f14 false true false false) := by
  refine returnsInHanded_of_change (C := Try.checked) own started (by kernel_rfl) Try.func14
    (ChangeSpec.witness6 (enc := enc) (C := Try.checked) false ⟨#[], #[.slice none 0 0, .slice none 0 0], []⟩ 8 (by kernel_rfl) (by kernel_rfl) (by kernel_rfl) (by kernel_rfl)) ?_
  intro W base args ds gs before hval0 hW hcnd _
  have hval : ∀ (j : Nat) t v, Try.f14.params[j]? = some t → args[j]? = some v → Value.okWide Try.prog W .any base t v := hval0
  have hW' := hW
  obtain ⟨p, q, hA0, hV, rfl, hfz, hnd⟩ := hW
  have hA : DataW.TrodAll enc Try.prog W 0 (fun _ => true) true Try.f14.params.toList args.toList ds p := hA0
  rw [Try.params14] at hA hval
  obtain ⟨v0, vs0, d0, ds0, p0, q0, hargs, rfl, rfl, h0, r0⟩ := trodAll_cons hA
  obtain ⟨v1, vs1, d1, ds1, p1, q1, rfl, rfl, rfl, h1, r1⟩ := trodAll_cons r0
  obtain ⟨rfl, rfl, rfl⟩ := trodAll_nil r1
  obtain rfl : args = #[v0, v1] := by cases args; simp_all
  obtain ⟨rfl, rfl⟩ := trodVars_none hV
  have k0 := h0
  have lt0 : ∀ x ∈ p0, x.block < W.heap.size := by obtain ⟨m, hm⟩ := k0; exact DataW.trod_lt m _ _ _ hm
  have k1 := h1
  have lt1 : ∀ x ∈ p1, x.block < W.heap.size := by obtain ⟨m, hm⟩ := k1; exact DataW.trod_lt m _ _ _ hm
  obtain ⟨A0, n0, m0, rfl⟩ := okWide_slice Try.underlying83 (hval 0 83 v0 rfl rfl)
  obtain ⟨fu0, hf0⟩ := h0
  obtain ⟨f0, hr0, hn0, hft0⟩ := openBellS hf0
  obtain ⟨A1, n1, m1, rfl⟩ := okWide_slice Try.underlying83 (hval 1 83 v1 rfl rfl)
  obtain ⟨fu1, hf1⟩ := h1
  obtain ⟨f1, hr1, hn1, hft1⟩ := openBellS hf1
  clear hA0 hval0
  refine (walk A0 n0 m0 f0 A1 n1 m1 f1 W hr0 hn0 hft0 hr1 hn1 hft1).mono fun e W' ⟨he, bel⟩ => ?_
  subst he
  exact ⟨_, rfl, _, _, _, [], _, [], hW', trodAll_mk1 (shut_bool Try.underlying4 _), (trodAll_cons_mk (Below.trod laidOut (by kernel_rfl) (of_decide_eq_true (by kernel_rfl)) k0 bel lt0) (trodAll_cons_mk (Below.trod laidOut (by kernel_rfl) (of_decide_eq_true (by kernel_rfl)) k1 bel lt1) trodAll_mk0)), rfl, bel.frame _, fun h => by cases h⟩
set_option maxHeartbeats 20000000 in
theorem closed : joinedFacts Try.pinned.checked.prog 14 Try.f14 Rows.fnExactSameBellsSpec Rows.fnExactSameBellsRow = true := by
  unfold joinedFacts
  simp only [Bool.and_eq_true]
  and_intros
  all_goals (as_aux_lemma => kernel_rfl)
theorem proved : Rows.FnExactSameBellsSaid :=
  OpenClaim.holds_of_wide 14 Try.f14 rfl rfl rfl rfl rfl rfl rfl ⟨rfl, rfl, rfl, rfl, rfl⟩ rfl rfl rfl rfl rfl (by kernel_rfl) Try.func14 closed
    (of_decide_eq_true (by kernel_rfl)) (by unfold Func.isWrapper; first | (rw [if_pos (by decide +kernel)]; kernel_rfl) | (rw [if_neg (by decide +kernel)]; exact ⟨rfl, rfl⟩))
    (fun os started H enc _ => lifted os started H enc)
end Go.Proofs.Ytgifojplglgcpaa.FnExactSameBells
