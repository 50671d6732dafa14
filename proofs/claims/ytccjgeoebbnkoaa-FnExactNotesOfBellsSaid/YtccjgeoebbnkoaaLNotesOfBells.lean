/- FnExactNotesOfBells: the program's NotesOfBells and the reference's give the same of every list of bells. No further condition. -/



import Derived.Test.YtccjgeoebbnkoaaRows
import Derived.Test.YtccjgeoebbnkoaaFrame
import Derived.Test.YtccjgeoebbnkoaaNotes
namespace Go.Proofs.Ytccjgeoebbnkoaa.FnExactNotesOfBells
set_option linter.unusedVariables false
open Go.ChangeShapes Go.WideShapes Go.ChangeAt Go.RowKit Go.Deep
open Go.ChangeMaps (open_string shut_string)
theorem sumN_sumB (f : Nat → BellV) : ∀ n, sumN (fun i => (f i).n) n ≤ sumB f n
  | 0 => Nat.le_refl _
  | n + 1 => by
    have := sumN_sumB f n
    have e1 : sumN (fun i => (f i).n) (n + 1) = sumN (fun i => (f i).n) n + (f n).n := rfl
    have e2 : sumB f (n + 1) = sumB f n + bellSz (f n) := rfl
    unfold bellSz at e2
    omega
theorem both (f : Nat → BellV) (n : Nat) (hf : ∀ i, i < n → Fine (f i)) (hn : n ≤ 1048576) : ∃ (L : Nat) (S : Nat → Int) (code : Int), L ≤ 1048576 ∧
    (∀ W A c, BellRow W A n f → Calls Try.prog 25 #[.slice A n c] W fun e w' => ∃ v, e = .returned (.tuple #[v, .int .i64 code]) ∧ ∃ A c G, v = .slice A L c ∧ IntOwn w' A L S G ∧ W.heap.size ≤ G ∧ Below W.heap.size W w') ∧
    (∀ W A c, BellRow W A n f → Calls Try.prog 26 #[.slice A n c] W fun e w' => ∃ v, e = .returned (.tuple #[v, .int .i64 code]) ∧ ∃ A c G, v = .slice A L c ∧ IntOwn w' A L S G ∧ W.heap.size ≤ G ∧ Below W.heap.size W w') :=
  ⟨(nbL f n).length, lp (nbL f n), rmC f n, Nat.le_trans (nbL_len f n) hn, fun W A c h => sNotesOfBells_calls A n c f W h hf hn, fun W A c h => NotesOfBells_calls A n c f W h hf hn⟩
set_option maxHeartbeats 8000000 in
theorem walk (A : Option Addr) (n c : Nat) (f : Nat → BellV) (w : World) (hr : BellRow w A n f) (hn : n ≤ maxLen) (hft : ∀ i, i < n → Fit (f i)) :
    Calls Try.prog 5 #[.slice A n c] w fun e w' => e = .returned (.bool true) ∧ Below w.heap.size w w' := by
  have HF := Lib.hid hft
  have HR := Lib.hid hr
  have k1 := Lib.hid (Below.refl w.heap.size w)
  clear hr hft
  by_cases hbig : (1048576 : Int) < (n : Int) + sumB f n
  · go_enter Try.func5, Try.ntmps5
    go_wp2_with (go_at_call 11; refine (szBellS_calls _ _ _ _ _ _ (HR.out.keep k1.out) HF.out hn (by omega) (by omega)).mono ?_; rw [if_pos hbig]; rintro e w1 ⟨rfl, hb⟩)
    go_ret
    exact ⟨rfl, hb⟩
  · have hn2 : n ≤ 1048576 := by omega
    have hsum : n + sumN (fun i => (f i).n) n ≤ 1048576 := by have := sumN_sumB f n; omega
    have HG := Lib.hid (fine_of HF.out (by omega))
    have HN := Lib.hid (show ∀ i, i < n → (f i).n ≤ 1048576 from fun i hi => (HG.out i hi).2.2)
    obtain ⟨L, S, code, hL, hcs, hci⟩ := both f n HG.out hn2
    have CS := Lib.hid hcs
    have CI := Lib.hid hci
    clear hcs hci
    go_enter Try.func5, Try.ntmps5
    go_wp2_with (go_at_call 11; refine (szBellS_calls _ _ _ _ _ _ (HR.out.keep k1.out) HF.out hn (by omega) (by omega)).mono ?_; rw [if_neg hbig]; rintro e w1 ⟨rfl, hb⟩; replace k1 := Lib.hid (k1.out.trans (hb.mono k1.out.size)); (try replace gw1 := Lib.hid (gw1.out.keep hb)); (try replace gg1 := Lib.hid (gg1.out.keep hb)); (try replace xr1 := Lib.hid (xr1.out.keep hb)); (try replace xs1 := Lib.hid (xs1.out.kin (Kin.of hb))); (try have hhi2 := Nat.le_trans hhi hb.size); (try clear hhi); (try have hhi := hhi2); (try clear hhi2); clear hb)
    go_at_call 13
    refine (toBellS_calls _ _ _ _ _ (HR.out.keep k1.out) HN.out hn2).mono ?_
    rintro e w2 ⟨rfl, hb, -, hc⟩
    have c1 := Lib.hid hc
    replace k1 := Lib.hid (k1.out.trans (hb.mono k1.out.size)); (try replace gw1 := Lib.hid (gw1.out.keep hb)); (try replace gg1 := Lib.hid (gg1.out.keep hb)); (try replace xr1 := Lib.hid (xr1.out.keep hb)); (try replace xs1 := Lib.hid (xs1.out.kin (Kin.of hb))); (try have hhi2 := Nat.le_trans hhi hb.size); (try clear hhi); (try have hhi := hhi2); (try clear hhi2)
    clear hb hc
    go_wp2_with fail
    go_at_call 25
    refine (CS.out _ _ _ c1.out).mono ?_
    rintro e w3 ⟨v, rfl, Aw, cw, Gw, rfl, hio, hGw, hb⟩
    replace k1 := Lib.hid (k1.out.trans (hb.mono k1.out.size)); (try replace gw1 := Lib.hid (gw1.out.keep hb)); (try replace gg1 := Lib.hid (gg1.out.keep hb)); (try replace xr1 := Lib.hid (xr1.out.keep hb)); (try replace xs1 := Lib.hid (xs1.out.kin (Kin.of hb))); (try have hhi2 := Nat.le_trans hhi hb.size); (try clear hhi); (try have hhi := hhi2); (try clear hhi2)
    have gw1 := Lib.hid hio
    have hGw2 := fun h0 => hio.lt h0
    clear hb hio
    clear c1 CS
    go_wp2_with fail
    go_at_call 13
    refine (toBellS_own _ _ _ _ _ (HR.out.keep k1.out) HN.out hn2).mono ?_
    rintro e w4 ⟨rfl, hb, -, hc, hx⟩
    obtain ⟨lo1, hlo1⟩ : ∃ lo : Nat, lo = w3.heap.size := ⟨_, rfl⟩
    obtain ⟨hi1, hhi1⟩ : ∃ hi : Nat, hi = w4.heap.size := ⟨_, rfl⟩
    have hlo : w.heap.size ≤ lo1 := by have := k1.out.size; omega
    have hlohi : lo1 ≤ hi1 := by have := hb.size; omega
    rw [← hlo1] at hc hx
    rw [← hhi1] at hx
    replace k1 := Lib.hid (k1.out.trans (hb.mono k1.out.size)); (try replace gw1 := Lib.hid (gw1.out.keep hb)); (try replace gg1 := Lib.hid (gg1.out.keep hb)); (try replace xr1 := Lib.hid (xr1.out.keep hb)); (try replace xs1 := Lib.hid (xs1.out.kin (Kin.of hb))); (try have hhi2 := Nat.le_trans hhi hb.size); (try clear hhi); (try have hhi := hhi2); (try clear hhi2)
    have xr1 := Lib.hid hc
    have xs1 := Lib.hid hx
    have hhi : hi1 ≤ w4.heap.size := by omega
    rw [← hlo1]
    have hGw3 : ∀ h0 : 0 < L, Gw < lo1 := fun h0 => by have := hGw2 h0; omega
    clear hGw2
    have hGw2 := hGw3
    clear hGw3 hlo1 hhi1 hb hc hx
    go_wp2_with fail
    go_at_call 26
    refine (CI.out _ _ _ xr1.out).mono ?_
    rintro e w5 ⟨v, rfl, Ag, cg, Gg0, rfl, hio, hGg0, hb⟩
    obtain ⟨Gg, hGg, hio⟩ : ∃ G, hi1 ≤ G ∧ IntOwn w5 Ag L S G := ⟨Gg0, Nat.le_trans hhi hGg0, hio⟩
    replace k1 := Lib.hid (k1.out.trans (hb.mono k1.out.size)); (try replace gw1 := Lib.hid (gw1.out.keep hb)); (try replace gg1 := Lib.hid (gg1.out.keep hb)); (try replace xr1 := Lib.hid (xr1.out.keep hb)); (try replace xs1 := Lib.hid (xs1.out.kin (Kin.of hb))); (try have hhi2 := Nat.le_trans hhi hb.size); (try clear hhi); (try have hhi := hhi2); (try clear hhi2)
    have gg1 := Lib.hid hio
    clear hb hio hGg0
    go_wp2_with fail
    go_at_call 27
    refine (eqInt64S_calls _ _ L _ _ S _ gg1.out.row gw1.out.row hL).mono ?_
    rintro e w6 ⟨rfl, hb⟩
    replace k1 := Lib.hid (k1.out.trans (hb.mono k1.out.size)); (try replace gw1 := Lib.hid (gw1.out.keep hb)); (try replace gg1 := Lib.hid (gg1.out.keep hb)); (try replace xr1 := Lib.hid (xr1.out.keep hb)); (try replace xs1 := Lib.hid (xs1.out.kin (Kin.of hb))); (try have hhi2 := Nat.le_trans hhi hb.size); (try clear hhi); (try have hhi := hhi2); (try clear hhi2)
    clear hb
    go_wp2_with fail
    go_at_call 13
    refine (toBellS_calls _ _ _ _ _ (HR.out.keep k1.out) HN.out hn2).mono ?_
    rintro e w7 ⟨rfl, hb, -, hc⟩
    have hx2 := Lib.hid hc
    replace k1 := Lib.hid (k1.out.trans (hb.mono k1.out.size)); (try replace gw1 := Lib.hid (gw1.out.keep hb)); (try replace gg1 := Lib.hid (gg1.out.keep hb)); (try replace xr1 := Lib.hid (xr1.out.keep hb)); (try replace xs1 := Lib.hid (xs1.out.kin (Kin.of hb))); (try have hhi2 := Nat.le_trans hhi hb.size); (try clear hhi); (try have hhi := hhi2); (try clear hhi2)
    clear hb hc
    go_wp2_with fail
    go_at_call 16
    refine (eqBellS_calls _ _ _ _ _ _ _ xr1.out hx2.out HN.out hn2).mono ?_
    rintro e w7 ⟨rfl, hb⟩
    replace k1 := Lib.hid (k1.out.trans (hb.mono k1.out.size)); (try replace gw1 := Lib.hid (gw1.out.keep hb)); (try replace gg1 := Lib.hid (gg1.out.keep hb)); (try replace xr1 := Lib.hid (xr1.out.keep hb)); (try replace xs1 := Lib.hid (xs1.out.kin (Kin.of hb))); (try have hhi2 := Nat.le_trans hhi hb.size); (try clear hhi); (try have hhi := hhi2); (try clear hhi2)
    clear hb hx2 xr1
    go_wp2_with fail
    go_at_call 17
    refine (markBellS_kin _ n _ lo1 hi1 1 _ _ xs1.out hhi hsum (by omega) (by omega)).mono ?_
    rintro e w8 ⟨rfl, hg⟩
    have hlo2 := Nat.le_trans hlohi hhi
    have hbl := hg.below hlo2
    replace k1 := Lib.hid (k1.out.trans (hbl.mono hlo))
    replace gw1 := Lib.hid (gw1.out.same (fun h => hg.far _ (Nat.lt_of_lt_of_le (hGw2 h) hlo2) (by have := hGw2 h; omega)))
    replace gg1 := Lib.hid (gg1.out.same (fun h => hg.far _ (gg1.out.lt h) (by omega)))
    obtain ⟨M, hM⟩ : ∃ M : Nat, M = 1 + 4 * n + 2 * sumN (fun i => (f i).n) n := ⟨_, rfl⟩
    rw [← hM]
    have hMb : M ≤ 8000000 := by omega
    clear hM hg xs1 hbl
    go_wp2_with fail
    go_at_call 27
    refine (eqInt64S_calls _ _ L _ _ S _ gg1.out.row gw1.out.row hL).mono ?_
    rintro e w9 ⟨rfl, hb⟩
    replace k1 := Lib.hid (k1.out.trans (hb.mono k1.out.size)); (try replace gw1 := Lib.hid (gw1.out.keep hb)); (try replace gg1 := Lib.hid (gg1.out.keep hb))
    clear hb
    go_wp2_with fail
    go_at_call 28
    refine (markInt64S_calls _ L _ Gg S 1 _ gg1.out hL (by omega)).mono ?_
    rintro e w10 ⟨rfl, hm1, hg⟩
    replace k1 := Lib.hid (k1.out.grown hg k1.out.size (fun k hk => by cases hk; omega))
    replace gw1 := Lib.hid (gw1.out.grown hg (fun h => by have := hGw2 h; omega))
    clear gg1
    have gg1 := Lib.hid hm1
    obtain ⟨M3, hM3⟩ : ∃ M : Nat, M = 1 + L := ⟨_, rfl⟩
    rw [← hM3]
    have HM3 := Lib.hid hM3
    have hMb3 : M3 ≤ 4000000 := by omega
    clear hM3 hg hm1
    go_wp2_with fail
    go_at_call 29
    refine (heldInt64S_calls _ L _ 1 _ gg1.out.row hL (by omega)).mono ?_
    rintro e w11 ⟨rfl, rfl⟩
    rw [← HM3.out]
    go_wp2_with fail
    go_at_call 13
    refine (toBellS_calls _ _ _ _ _ (HR.out.keep k1.out) HN.out hn2).mono ?_
    rintro e w12 ⟨rfl, hb, -, hc⟩
    have c1 := Lib.hid hc
    replace k1 := Lib.hid (k1.out.trans (hb.mono k1.out.size)); (try replace gw1 := Lib.hid (gw1.out.keep hb)); (try replace gg1 := Lib.hid (gg1.out.keep hb))
    clear hb hc
    go_wp2_with fail
    go_at_call 26
    refine (CI.out _ _ _ c1.out).mono ?_
    clear c1
    rintro e w13 ⟨v, rfl, Ah, ch, Gh, rfl, hio, -, hb⟩
    replace k1 := Lib.hid (k1.out.trans (hb.mono k1.out.size)); (try replace gw1 := Lib.hid (gw1.out.keep hb)); (try replace gg1 := Lib.hid (gg1.out.keep hb))
    have gh1 := Lib.hid hio
    clear hb hio CI
    go_wp2_with fail
    go_at_call 27
    refine (eqInt64S_calls _ _ L _ _ S _ gh1.out.row gw1.out.row hL).mono ?_
    rintro e w14 ⟨rfl, hb⟩
    replace k1 := Lib.hid (k1.out.trans (hb.mono k1.out.size)); (try replace gw1 := Lib.hid (gw1.out.keep hb)); (try replace gg1 := Lib.hid (gg1.out.keep hb))
    clear hb gh1
    go_wp2_with fail
    go_at_call 29
    refine (heldInt64S_calls _ L _ 1 _ gg1.out.row hL (by omega)).mono ?_
    rintro e w15 ⟨rfl, rfl⟩
    rw [← HM3.out]
    go_wp2
    go_ret
    exact ⟨rfl, k1.out⟩
theorem own : ownKnob Try.prog.godebug = none := by kernel_rfl
theorem laidOut : laidOutB Try.prog = true := by kernel_rfl
set_option maxRecDepth 100000 in
theorem lifted (os : Os) (started : os.Started) (H : Type) (enc : TypeId × Value → H) :
    ReturnsInHanded {} Try.checked os 5 .any (Rows.fnExactNotesOfBellsSpec.pre6 enc Try.prog Try.f5 Rows.fnExactNotesOfBellsRow.domain false) (Rows.fnExactNotesOfBellsSpec.post enc Try.prog Try.f5 false true false false) := by
  refine returnsInHanded_of_change (C := Try.checked) own started (by kernel_rfl) Try.func5
    (ChangeSpec.witness6 (enc := enc) (C := Try.checked) false ⟨#[], #[.slice none 0 0], []⟩ 8 (by kernel_rfl) (by kernel_rfl) (by kernel_rfl) (by kernel_rfl)) ?_
  intro W base args ds gs before hval0 hW hcnd _
  have hval : ∀ (j : Nat) t v, Try.f5.params[j]? = some t → args[j]? = some v → Value.okWide Try.prog W .any base t v := hval0
  have hW' := hW
  obtain ⟨p, q, hA0, hV, rfl, hfz, hnd⟩ := hW
  have hA : DataW.TrodAll enc Try.prog W 0 (fun _ => true) true Try.f5.params.toList args.toList ds p := hA0
  rw [Try.params5] at hA hval
  obtain ⟨v0, vs0, d0, ds0, p0, q0, hargs, rfl, rfl, h0, r0⟩ := trodAll_cons hA
  obtain ⟨rfl, rfl, rfl⟩ := trodAll_nil r0
  obtain rfl : args = #[v0] := by cases args; simp_all
  obtain ⟨rfl, rfl⟩ := trodVars_none hV
  have k0 := h0
  have lt0 : ∀ x ∈ p0, x.block < W.heap.size := by obtain ⟨m, hm⟩ := k0; exact DataW.trod_lt m _ _ _ hm
  obtain ⟨A0, n0, m0, rfl⟩ := okWide_slice Try.underlying22 (hval 0 22 v0 rfl rfl)
  obtain ⟨fu0, hf0⟩ := h0
  obtain ⟨f0, hr0, hn0, hft0⟩ := openBellS hf0
  clear hA0 hval0
  refine (walk A0 n0 m0 f0 W hr0 hn0 hft0).mono fun e W' ⟨he, bel⟩ => ?_
  subst he
  exact ⟨_, rfl, _, _, _, [], _, [], hW', trodAll_mk1 (shut_bool Try.underlying4 _), (trodAll_cons_mk (Below.trod laidOut (by kernel_rfl) (of_decide_eq_true (by kernel_rfl)) k0 bel lt0) trodAll_mk0), rfl, bel.frame _, fun h => by cases h⟩
set_option maxHeartbeats 20000000 in
theorem closed : joinedFacts Try.pinned.checked.prog 5 Try.f5 Rows.fnExactNotesOfBellsSpec Rows.fnExactNotesOfBellsRow = true := by
  unfold joinedFacts
  simp only [Bool.and_eq_true]
  and_intros
  all_goals (as_aux_lemma => kernel_rfl)
theorem proved : Rows.FnExactNotesOfBellsSaid :=
  OpenClaim.holds_of_wide 5 Try.f5 rfl rfl rfl rfl rfl rfl rfl ⟨rfl, rfl, rfl, rfl, rfl⟩ rfl rfl rfl rfl rfl (by kernel_rfl) Try.func5 closed
    (of_decide_eq_true (by kernel_rfl)) (by unfold Func.isWrapper; first | (rw [if_pos (by decide +kernel)]; kernel_rfl) | (rw [if_neg (by decide +kernel)]; exact ⟨rfl, rfl⟩))
    (fun os started H enc _ => lifted os started H enc)
end Go.Proofs.Ytccjgeoebbnkoaa.FnExactNotesOfBells
