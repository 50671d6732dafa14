/- FnExactLeftIn: the program's LeftIn and the reference's give the same of all melts, bells and texts. No further condition. -/


import Derived.Test.YtccjgeoebbnkoaaRows
import Derived.Test.YtccjgeoebbnkoaaFrame
import Derived.Test.YtccjgeoebbnkoaaLeft2
namespace Go.Proofs.Ytccjgeoebbnkoaa.FnExactLeftIn
set_option linter.unusedVariables false
open Go.ChangeShapes Go.WideShapes Go.ChangeAt Go.RowKit Go.Deep
open Go.ChangeMaps (open_string shut_string)
set_option maxHeartbeats 8000000 in
theorem walk (B : Option Addr) (m d : Nat) (g : Nat → MeltV) (A : Option Addr) (n c : Nat) (f : Nat → BellV) (s : ByteArray) (w : World) (hr2 : MeltRow w B m g) (hm : m ≤ maxLen) (hft2 : ∀ i, i < m → FitM (g i)) (hr : BellRow w A n f) (hn : n ≤ maxLen) (hft : ∀ i, i < n → Fit (f i)) (hs : s.size ≤ maxLen) :
    Calls Try.prog 4 #[.slice B m d, .slice A n c, .string s] w fun e w' => e = .returned (.bool true) ∧ Below w.heap.size w w' := by
  unfold maxLen at hs
  have HF := Lib.hid hft
  have HFM := Lib.hid hft2
  have HR := Lib.hid hr
  have HM := Lib.hid hr2
  have k1 := Lib.hid (Below.refl w.heap.size w)
  clear hr hft hr2 hft2
  by_cases h0 : (1048576 : Int) < s.size
  · go_enter Try.func4, Try.ntmps4
    go_wp2
    go_ret
    exact ⟨rfl, Below.refl _ _⟩
  · by_cases hb1 : (1048576 : Int) < (m : Int) + sumM g m
    · go_enter Try.func4, Try.ntmps4
      go_wp2_with (go_at_call 20; refine (szMeltS_calls _ _ _ _ _ _ (HM.out.keep k1.out) HFM.out hm (by omega) (by omega)).mono ?_; rw [if_pos hb1]; rintro e w1 ⟨rfl, hb⟩; replace k1 := Lib.hid (k1.out.trans (hb.mono k1.out.size)); (try replace c1 := Lib.hid (c1.out.keep hb)); (try replace c2 := Lib.hid (c2.out.keep hb)); (try replace x1 := Lib.hid (x1.out.keep hb)); (try replace x2 := Lib.hid (x2.out.keep hb)); clear hb)
      go_ret
      exact ⟨rfl, k1.out⟩
    · obtain ⟨L, hL⟩ : ∃ L : Int, L = 1048576 - ((m : Int) + sumM g m) := ⟨_, rfl⟩
      have hL0 : 0 ≤ L := by omega
      have hL1 : L ≤ 1048576 := by omega
      have hm2 : m ≤ 1048576 := by omega
      have HG2 := Lib.hid (fineM_of HFM.out (by omega))
      have HL := Lib.hid hL
      by_cases hb2 : L < (n : Int) + sumB f n
      · clear hL
        go_enter Try.func4, Try.ntmps4
        go_wp2_with (first | (go_at_call 20; refine (szMeltS_calls _ _ _ _ _ _ (HM.out.keep k1.out) HFM.out hm (by omega) (by omega)).mono ?_; rw [if_neg hb1, ← HL.out]; rintro e w1 ⟨rfl, hb⟩; replace k1 := Lib.hid (k1.out.trans (hb.mono k1.out.size)); (try replace c1 := Lib.hid (c1.out.keep hb)); (try replace c2 := Lib.hid (c2.out.keep hb)); (try replace x1 := Lib.hid (x1.out.keep hb)); (try replace x2 := Lib.hid (x2.out.keep hb)); clear hb) | (go_at_call 11; refine (szBellS_calls _ _ _ _ _ _ (HR.out.keep k1.out) HF.out hn (by omega) (by omega)).mono ?_; rw [if_pos hb2]; rintro e w2 ⟨rfl, hb⟩; replace k1 := Lib.hid (k1.out.trans (hb.mono k1.out.size)); (try replace c1 := Lib.hid (c1.out.keep hb)); (try replace c2 := Lib.hid (c2.out.keep hb)); (try replace x1 := Lib.hid (x1.out.keep hb)); (try replace x2 := Lib.hid (x2.out.keep hb)); clear hb))
        go_ret
        exact ⟨rfl, k1.out⟩
      · obtain ⟨L2, hL2⟩ : ∃ L2 : Int, L2 = L - ((n : Int) + sumB f n) := ⟨_, rfl⟩
        have hL20 : 0 ≤ L2 := by omega
        have hn2 : n ≤ 1048576 := by omega
        have HG := Lib.hid (fine_of HF.out (by omega))
        have HN := Lib.hid (show ∀ i, i < n → (f i).n ≤ 1048576 from fun i hi => (HG.out i hi).2.2)
        have HNM := Lib.hid (show ∀ i, i < m → (g i).n ≤ 1048576 from fun i hi => (HG2.out i hi).2.2)
        have HL2 := Lib.hid hL2
        clear hL hL2
        go_enter Try.func4, Try.ntmps4
        go_wp2_with fail
        go_at_call 20
        refine (szMeltS_calls _ _ _ _ _ _ (HM.out.keep k1.out) HFM.out hm (by omega) (by omega)).mono ?_
        rw [if_neg (by omega), ← HL.out]
        rintro e w1 ⟨rfl, hb⟩
        replace k1 := Lib.hid (k1.out.trans (hb.mono k1.out.size)); (try replace c1 := Lib.hid (c1.out.keep hb)); (try replace c2 := Lib.hid (c2.out.keep hb)); (try replace x1 := Lib.hid (x1.out.keep hb)); (try replace x2 := Lib.hid (x2.out.keep hb)); clear hb
        go_wp2_with fail
        go_at_call 11
        refine (szBellS_calls _ _ _ _ _ _ (HR.out.keep k1.out) HF.out hn (by omega) (by omega)).mono ?_
        rw [if_neg (by omega), ← HL2.out]
        rintro e w2 ⟨rfl, hb⟩
        replace k1 := Lib.hid (k1.out.trans (hb.mono k1.out.size)); (try replace c1 := Lib.hid (c1.out.keep hb)); (try replace c2 := Lib.hid (c2.out.keep hb)); (try replace x1 := Lib.hid (x1.out.keep hb)); (try replace x2 := Lib.hid (x2.out.keep hb)); clear hb
        go_wp2_with fail
        go_at_call 22
        refine (toMeltS_calls _ _ _ _ _ (HM.out.keep k1.out) HNM.out hm2).mono ?_
        rintro e w3 ⟨rfl, hb, -, hc, -⟩
        replace k1 := Lib.hid (k1.out.trans (hb.mono k1.out.size)); (try replace c1 := Lib.hid (c1.out.keep hb)); (try replace c2 := Lib.hid (c2.out.keep hb)); (try replace x1 := Lib.hid (x1.out.keep hb)); (try replace x2 := Lib.hid (x2.out.keep hb)); clear hb
        have c1 := Lib.hid hc
        clear hc
        go_wp2_with fail
        go_at_call 13
        refine (toBellS_calls _ _ _ _ _ (HR.out.keep k1.out) HN.out hn2).mono ?_
        rintro e w4 ⟨rfl, hb, -, hc⟩
        replace k1 := Lib.hid (k1.out.trans (hb.mono k1.out.size)); (try replace c1 := Lib.hid (c1.out.keep hb)); (try replace c2 := Lib.hid (c2.out.keep hb)); (try replace x1 := Lib.hid (x1.out.keep hb)); (try replace x2 := Lib.hid (x2.out.keep hb)); clear hb
        have c2 := Lib.hid hc
        clear hc
        go_wp2_with fail
        go_at_call 21
        refine (sLeftIn_calls _ m _ g _ n _ f s _ c1.out hm2 HG2.out c2.out hn2 HG.out).mono ?_
        rintro e w5 ⟨rfl, nd, rfl⟩
        have k2 := Lib.hid (below_drewN k1.out nd)
        clear k1 c1 c2
        have k1 := k2
        clear k2
        generalize hw5 : w4.drewN nd = w5 at k1
        clear hw5
        go_wp2_with fail
        go_at_call 22
        refine (toMeltS_calls _ _ _ _ _ (HM.out.keep k1.out) HNM.out hm2).mono ?_
        rintro e w6 ⟨rfl, hb, -, hc, -⟩
        replace k1 := Lib.hid (k1.out.trans (hb.mono k1.out.size)); (try replace c1 := Lib.hid (c1.out.keep hb)); (try replace c2 := Lib.hid (c2.out.keep hb)); (try replace x1 := Lib.hid (x1.out.keep hb)); (try replace x2 := Lib.hid (x2.out.keep hb)); clear hb
        have x1 := Lib.hid hc
        clear hc
        go_wp2_with fail
        go_at_call 13
        refine (toBellS_calls _ _ _ _ _ (HR.out.keep k1.out) HN.out hn2).mono ?_
        rintro e w7 ⟨rfl, hb, -, hc⟩
        replace k1 := Lib.hid (k1.out.trans (hb.mono k1.out.size)); (try replace c1 := Lib.hid (c1.out.keep hb)); (try replace c2 := Lib.hid (c2.out.keep hb)); (try replace x1 := Lib.hid (x1.out.keep hb)); (try replace x2 := Lib.hid (x2.out.keep hb)); clear hb
        have x2 := Lib.hid hc
        clear hc
        go_wp2_with fail
        go_at_call 23
        refine (LeftIn_calls _ m _ g _ n _ f s _ x1.out hm2 (Nat.le_refl _) HG2.out x2.out hn2 HG.out).mono ?_
        rintro e w8 ⟨rfl, hb⟩
        replace k1 := Lib.hid (k1.out.trans (hb.mono k1.out.size)); (try replace c1 := Lib.hid (c1.out.keep hb)); (try replace c2 := Lib.hid (c2.out.keep hb)); (try replace x1 := Lib.hid (x1.out.keep hb)); (try replace x2 := Lib.hid (x2.out.keep hb)); clear hb
        generalize lfV g m f n s = RV
        generalize lfC g m f n s = RC
        go_wp2_with fail
        go_at_call 22
        refine (toMeltS_calls _ _ _ _ _ (HM.out.keep k1.out) HNM.out hm2).mono ?_
        rintro e w9 ⟨rfl, hb, -, hc, -⟩
        replace k1 := Lib.hid (k1.out.trans (hb.mono k1.out.size)); (try replace c1 := Lib.hid (c1.out.keep hb)); (try replace c2 := Lib.hid (c2.out.keep hb)); (try replace x1 := Lib.hid (x1.out.keep hb)); (try replace x2 := Lib.hid (x2.out.keep hb)); clear hb
        have c1 := Lib.hid hc
        clear hc
        go_wp2_with fail
        go_at_call 24
        refine (eqMeltS_calls _ _ _ _ _ _ _ x1.out c1.out HNM.out hm2).mono ?_
        rintro e w10 ⟨rfl, hb⟩
        replace k1 := Lib.hid (k1.out.trans (hb.mono k1.out.size)); (try replace c1 := Lib.hid (c1.out.keep hb)); (try replace c2 := Lib.hid (c2.out.keep hb)); (try replace x1 := Lib.hid (x1.out.keep hb)); (try replace x2 := Lib.hid (x2.out.keep hb)); clear hb
        clear c1 x1
        go_wp2_with fail
        go_at_call 13
        refine (toBellS_calls _ _ _ _ _ (HR.out.keep k1.out) HN.out hn2).mono ?_
        rintro e w11 ⟨rfl, hb, -, hc⟩
        replace k1 := Lib.hid (k1.out.trans (hb.mono k1.out.size)); (try replace c1 := Lib.hid (c1.out.keep hb)); (try replace c2 := Lib.hid (c2.out.keep hb)); (try replace x1 := Lib.hid (x1.out.keep hb)); (try replace x2 := Lib.hid (x2.out.keep hb)); clear hb
        have c2 := Lib.hid hc
        clear hc
        go_wp2_with fail
        go_at_call 16
        refine (eqBellS_calls _ _ _ _ _ _ _ x2.out c2.out HN.out hn2).mono ?_
        rintro e w12 ⟨rfl, hb⟩
        replace k1 := Lib.hid (k1.out.trans (hb.mono k1.out.size)); (try replace c1 := Lib.hid (c1.out.keep hb)); (try replace c2 := Lib.hid (c2.out.keep hb)); (try replace x1 := Lib.hid (x1.out.keep hb)); (try replace x2 := Lib.hid (x2.out.keep hb)); clear hb
        go_wp2
        go_ret
        exact ⟨rfl, k1.out⟩
theorem own : ownKnob Try.prog.godebug = none := by kernel_rfl
theorem laidOut : laidOutB Try.prog = true := by kernel_rfl
set_option maxRecDepth 100000 in
theorem lifted (os : Os) (started : os.Started) (H : Type) (enc : TypeId × Value → H) :
    ReturnsInHanded {} Try.checked os 4 .any (Rows.fnExactLeftInSpec.pre6 enc Try.prog Try.f4 Rows.fnExactLeftInRow.domain false) (Rows.fnExactLeftInSpec.post enc Try.prog Try.f4 false true false false) := by
  refine returnsInHanded_of_change (C := Try.checked) own started (by kernel_rfl) Try.func4
    (ChangeSpec.witness6 (enc := enc) (C := Try.checked) false ⟨#[], #[.slice none 0 0, .slice none 0 0, .string ⟨#[]⟩], []⟩ 8 (by kernel_rfl) (by kernel_rfl) (by kernel_rfl) (by kernel_rfl)) ?_
  intro W base args ds gs before hval0 hW hcnd _
  have hval : ∀ (j : Nat) t v, Try.f4.params[j]? = some t → args[j]? = some v → Value.okWide Try.prog W .any base t v := hval0
  have hW' := hW
  obtain ⟨p, q, hA0, hV, rfl, hfz, hnd⟩ := hW
  have hA : DataW.TrodAll enc Try.prog W 0 (fun _ => true) true Try.f4.params.toList args.toList ds p := hA0
  rw [Try.params4] at hA hval
  obtain ⟨v0, vs0, d0, ds0, p0, q0, hargs, rfl, rfl, h0, r0⟩ := trodAll_cons hA
  obtain ⟨v1, vs1, d1, ds1, p1, q1, rfl, rfl, rfl, h1, r1⟩ := trodAll_cons r0
  obtain ⟨v2, vs2, d2, ds2, p2, q2, rfl, rfl, rfl, h2, r2⟩ := trodAll_cons r1
  obtain ⟨rfl, rfl, rfl⟩ := trodAll_nil r2
  obtain rfl : args = #[v0, v1, v2] := by cases args; simp_all
  obtain ⟨rfl, rfl⟩ := trodVars_none hV
  have k0 := h0
  have lt0 : ∀ x ∈ p0, x.block < W.heap.size := by obtain ⟨m, hm⟩ := k0; exact DataW.trod_lt m _ _ _ hm
  have k1 := h1
  have lt1 : ∀ x ∈ p1, x.block < W.heap.size := by obtain ⟨m, hm⟩ := k1; exact DataW.trod_lt m _ _ _ hm
  have k2 := h2
  have lt2 : ∀ x ∈ p2, x.block < W.heap.size := by obtain ⟨m, hm⟩ := k2; exact DataW.trod_lt m _ _ _ hm
  obtain ⟨A0, n0, m0, rfl⟩ := okWide_slice Try.underlying34 (hval 0 34 v0 rfl rfl)
  obtain ⟨fu0, hf0⟩ := h0
  obtain ⟨f0, hr0, hn0, hft0⟩ := openMeltS hf0
  obtain ⟨A1, n1, m1, rfl⟩ := okWide_slice Try.underlying22 (hval 1 22 v1 rfl rfl)
  obtain ⟨fu1, hf1⟩ := h1
  obtain ⟨f1, hr1, hn1, hft1⟩ := openBellS hf1
  obtain ⟨s2, rfl, _, _, ws2⟩ := open_string Try.underlying9 (hval 2 9 v2 rfl rfl) h2
  clear hA0 hval0
  refine (walk A0 n0 m0 f0 A1 n1 m1 f1 s2 W hr0 hn0 hft0 hr1 hn1 hft1 ws2).mono fun e W' ⟨he, bel⟩ => ?_
  subst he
  exact ⟨_, rfl, _, _, _, [], _, [], hW', trodAll_mk1 (shut_bool Try.underlying4 _), (trodAll_cons_mk (Below.trod laidOut (by kernel_rfl) (of_decide_eq_true (by kernel_rfl)) k0 bel lt0) (trodAll_cons_mk (Below.trod laidOut (by kernel_rfl) (of_decide_eq_true (by kernel_rfl)) k1 bel lt1) (trodAll_cons_mk (Below.trod laidOut (by kernel_rfl) (of_decide_eq_true (by kernel_rfl)) k2 bel lt2) trodAll_mk0))), rfl, bel.frame _, fun h => by cases h⟩
set_option maxHeartbeats 20000000 in
theorem closed : joinedFacts Try.pinned.checked.prog 4 Try.f4 Rows.fnExactLeftInSpec Rows.fnExactLeftInRow = true := by
  unfold joinedFacts
  simp only [Bool.and_eq_true]
  and_intros
  all_goals (as_aux_lemma => kernel_rfl)
theorem proved : Rows.FnExactLeftInSaid :=
  OpenClaim.holds_of_wide 4 Try.f4 rfl rfl rfl rfl rfl rfl rfl ⟨rfl, rfl, rfl, rfl, rfl⟩ rfl rfl rfl rfl rfl (by kernel_rfl) Try.func4 closed
    (of_decide_eq_true (by kernel_rfl)) (by unfold Func.isWrapper; first | (rw [if_pos (by decide +kernel)]; kernel_rfl) | (rw [if_neg (by decide +kernel)]; exact ⟨rfl, rfl⟩))
    (fun os started H enc _ => lifted os started H enc)
end Go.Proofs.Ytccjgeoebbnkoaa.FnExactLeftIn
