/- FnExactValidCrucibles: the program's ValidCrucibles and the reference's give the same of every list of crucibles. No further condition. -/


import Derived.Test.YtgifojplglgcpaaRows
import Derived.Test.YtgifojplglgcpaaFrame
import Derived.Test.YtgifojplglgcpaaCrucs
namespace Go.Proofs.Ytgifojplglgcpaa.FnExactValidCrucibles
set_option linter.unusedVariables false
open Go.ChangeShapes Go.WideShapes Go.ChangeAt Go.RowKit Go.Deep
open Go.ChangeMaps (open_string shut_string)
set_option maxHeartbeats 400000 in
theorem sref_calls (A : Option Addr) (n c : Nat) (s0 : Nat → ByteArray) (a1 : Nat → Int) (a2 : Nat → Int) (a3 : Nat → Int) (w : World) (h : CrucibleRow w A n s0 a1 a2 a3) (hs : ∀ i, i < n → (s0 i).size ≤ maxLen) (hn : n ≤ maxLen) :
    Calls Try.prog 32 #[.slice A n c] w fun e w' => e = .returned (.bool (allB (goodAt (fun i => crucB (s0 i) (a1 i) (a2 i) (a3 i)) s0) n && (decide ((1 : Int) ≤ n) && decide ((n : Int) ≤ 4)))) ∧ Below w.heap.size w w' := by
  go_enter Try.func32, Try.ntmps32
  go_wp2_with (go_at_call 85; refine (spec_l17Crucibles_calls _ _ _ _ _ _ _ _ h hs hn).mono ?_; rintro e w1 ⟨rfl, hB⟩)
  go_ret
  exact ⟨rfl, hB⟩
set_option maxHeartbeats 2000000 in
theorem walk (A : Option Addr) (n c : Nat) (s0 : Nat → ByteArray) (a1 : Nat → Int) (a2 : Nat → Int) (a3 : Nat → Int) (w : World) (hr : CrucibleRow w A n s0 a1 a2 a3) (hn : n ≤ maxLen) (ws0 : ∀ i, i < n → (s0 i).size ≤ maxLen) (wa1 : ∀ i, i < n → (Lit.int .i64 (a1 i)).wf = true) (wa2 : ∀ i, i < n → (Lit.int .i64 (a2 i)).wf = true) (wa3 : ∀ i, i < n → (Lit.int .i64 (a3 i)).wf = true) :
    Calls Try.prog 7 #[.slice A n c] w fun e w' => e = .returned (.bool true) ∧ Below w.heap.size w w' := by
  have hB := Below.refl w.heap.size w
  by_cases hbig : (1048576 : Int) < (n : Int) + sumS s0 n
  · go_enter Try.func7, Try.ntmps7
    go_wp2_with (go_at_call 31; refine (szCrucibleS_calls _ _ _ _ _ _ _ _ _ hr ws0 hn (by omega) (by omega)).mono ?_; rintro e w1 ⟨rfl, hB⟩; rw [if_pos (by omega)])
    go_ret
    exact ⟨rfl, hB⟩
  · have hn2 : n ≤ 1048576 := by omega
    go_enter Try.func7, Try.ntmps7
    go_wp2_with (first
      | (go_at_call 31; refine (szCrucibleS_calls _ _ _ _ _ _ _ _ _ hr ws0 hn (by omega) (by omega)).mono ?_; rintro e w1 ⟨rfl, hB⟩; rw [if_neg (by omega)])
      | (go_at_call 33; refine (toCrucibleS_calls _ _ _ _ _ _ _ _ (hr.below hB (Nat.le_refl _)) hn2).mono ?_; rintro e w2 ⟨rfl, hb, hgt, hnew⟩; replace hB := hB.trans (hb.mono hB.size); (try replace hr1 := hr1.below hb (Nat.le_refl _)); (try replace hr2 := hr2.below hb (Nat.le_refl _)); (try replace hr3 := hr3.below hb (Nat.le_refl _)); clear hb; (first | (have hz := hr2; clear hz; have hr3 := hnew) | (have hz := hr1; clear hz; have hr2 := hnew) | have hr1 := hnew))
      | (go_at_call 32; refine (sref_calls _ _ _ _ _ _ _ _ hr1 ws0 hn).mono ?_; rintro e w2 ⟨rfl, hb⟩; replace hB := hB.trans (hb.mono hB.size); (try replace hr1 := hr1.below hb (Nat.le_refl _)); (try replace hr2 := hr2.below hb (Nat.le_refl _)); (try replace hr3 := hr3.below hb (Nat.le_refl _)); clear hb)
      | (go_at_call 34; refine (impl_ValidCrucibles_calls _ _ _ _ _ _ _ _ hr2 ws0 hn).mono ?_; rintro e w2 ⟨rfl, hb⟩; replace hB := hB.trans (hb.mono hB.size); (try replace hr1 := hr1.below hb (Nat.le_refl _)); (try replace hr2 := hr2.below hb (Nat.le_refl _)); (try replace hr3 := hr3.below hb (Nat.le_refl _)); clear hb)
      | (go_at_call 35; refine (eqCrucibleS_calls _ _ _ _ _ _ _ _ _ _ hr2 hr3 hn2).mono ?_; rintro e w2 ⟨rfl, hb⟩; replace hB := hB.trans (hb.mono hB.size); (try replace hr1 := hr1.below hb (Nat.le_refl _)); (try replace hr2 := hr2.below hb (Nat.le_refl _)); (try replace hr3 := hr3.below hb (Nat.le_refl _)); clear hb))
    go_ret
    exact ⟨rfl, hB⟩
theorem own : ownKnob Try.prog.godebug = none := by kernel_rfl
theorem laidOut : laidOutB Try.prog = true := by kernel_rfl
set_option maxRecDepth 100000 in
theorem lifted (os : Os) (started : os.Started) (H : Type) (enc : TypeId × Value → H) :
    ReturnsInHanded {} Try.checked os 7 .any (Rows.fnExactValidCruciblesSpec.pre6 enc Try.prog Try.f7 Rows.fnExactValidCruciblesRow.domain false) (Rows.fnExactValidCruciblesSpec.post enc Try.prog Try.f7 false true false false) := by
  refine returnsInHanded_of_change (C := Try.checked) own started (by kernel_rfl) Try.func7
    (ChangeSpec.witness6 (enc := enc) (C := Try.checked) false ⟨#[], #[.slice none 0 0], []⟩ 8 (by kernel_rfl) (by kernel_rfl) (by kernel_rfl) (by kernel_rfl)) ?_
  intro W base args ds gs before hval0 hW hcnd _
  have hval : ∀ (j : Nat) t v, Try.f7.params[j]? = some t → args[j]? = some v → Value.okWide Try.prog W .any base t v := hval0
  have hW' := hW
  obtain ⟨p, q, hA0, hV, rfl, hfz, hnd⟩ := hW
  have hA : DataW.TrodAll enc Try.prog W 0 (fun _ => true) true Try.f7.params.toList args.toList ds p := hA0
  rw [Try.params7] at hA hval
  obtain ⟨v0, vs0, d0, ds0, p0, q0, hargs, rfl, rfl, h0, r0⟩ := trodAll_cons hA
  obtain ⟨rfl, rfl, rfl⟩ := trodAll_nil r0
  obtain rfl : args = #[v0] := by cases args; simp_all
  obtain ⟨rfl, rfl⟩ := trodVars_none hV
  have k0 := h0
  have lt0 : ∀ x ∈ p0, x.block < W.heap.size := by obtain ⟨m, hm⟩ := k0; exact DataW.trod_lt m _ _ _ hm
  obtain ⟨A0, n0, m0, rfl⟩ := okWide_slice Try.underlying44 (hval 0 44 v0 rfl rfl)
  obtain ⟨fu0, hf0⟩ := h0
  obtain ⟨s0_0, a0_1, a0_2, a0_3, hr0, hn0, c0_0, c0_1, c0_2, c0_3⟩ := openCrucibleS hf0
  clear hA0 hval0
  refine (walk A0 n0 m0 s0_0 a0_1 a0_2 a0_3 W hr0 hn0 c0_0 c0_1 c0_2 c0_3).mono fun e W' ⟨he, bel⟩ => ?_
  subst he
  exact ⟨_, rfl, _, _, _, [], _, [], hW', trodAll_mk1 (shut_bool Try.underlying4 _), (trodAll_cons_mk (Below.trod laidOut (by kernel_rfl) (of_decide_eq_true (by kernel_rfl)) k0 bel lt0) trodAll_mk0), rfl, bel.frame _, fun h => by cases h⟩
theorem proved : Rows.FnExactValidCruciblesSaid :=
  OpenClaim.holds_of_wide 7 Try.f7 rfl rfl rfl rfl rfl rfl rfl ⟨rfl, rfl, rfl, rfl, rfl⟩ rfl rfl rfl rfl rfl (by kernel_rfl) Try.func7 (by kernel_rfl)
    (of_decide_eq_true (by kernel_rfl)) (by unfold Func.isWrapper; first | (rw [if_pos (by decide +kernel)]; kernel_rfl) | (rw [if_neg (by decide +kernel)]; exact ⟨rfl, rfl⟩))
    (fun os started H enc _ => lifted os started H enc)
end Go.Proofs.Ytgifojplglgcpaa.FnExactValidCrucibles
