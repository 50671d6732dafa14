/- FnExactCounterweight: the program's Counterweight and the reference's give the same of every hung bell, mass and arm. For every input that the row speaks of. -/
import Derived.Test.YtkbjampfmcegpaaRows
import Derived.Test.YtkbjampfmcegpaaFrame
import Derived.Test.YtkbjampfmcegpaaCounter
namespace Go.Proofs.Ytkbjampfmcegpaa.FnExactCounterweight
set_option linter.unusedVariables false
open Go.ChangeShapes Go.WideShapes Go.ChangeAt Go.RowKit Go.Deep
open Go.ChangeMaps (open_string shut_string)



set_option maxHeartbeats 1000000 in
theorem walk (s : ByteArray) (m a f g ms ar : Int) (w : World) (hs : s.size ≤ maxLen) (wm : (Lit.int .i64 m).wf = true) (wa : (Lit.int .i64 a).wf = true) (wf : (Lit.int .i64 f).wf = true) (wg : (Lit.int .i64 g).wf = true) (wms : (Lit.int .i64 ms).wf = true) (war : (Lit.int .i64 ar).wf = true) :
    Calls Try.prog 4 #[.agg #[.string s, .int .i64 m, .int .i64 a, .int .i64 f, .int .i64 g], .int .i64 ms, .int .i64 ar] w fun e w' => e = .returned (.bool true) ∧ Below w.heap.size w w' := by
  have hB := Below.refl w.heap.size w
  by_cases h : (1048576 : Int) < s.size
  ·
    go_enter Try.func4, Try.ntmps4
    go_wp2_with (go_at_call 12; refine (szHung_calls _ _ _ _ _ _ _ hs (by omega) (by omega)).mono ?_; rintro e w1 ⟨rfl, hb⟩; obtain ⟨hc, hf⟩ := bcell hb; have hz := hb.size; (try simp at hz); (try have hl0 : w.heap.size < w1.heap.size := by omega); (try have hl1 : w.heap.size + 1 < w1.heap.size := by omega); (try have hl2 : w.heap.size + 1 + 1 < w1.heap.size := by omega); replace hB : Below w.heap.size w w1 := Below.trans (by go_grown) (hb.mono (by go_size)); clear hb; rw [if_pos h])
    go_ret
    exact ⟨rfl, hB⟩
  · obtain ⟨x0, x1, x2, x3, x4, z, hx⟩ := cwOut s m a f g ms ar
    have HX := Lib.hid hx
    clear hx
    go_enter Try.func4, Try.ntmps4
    go_wp2_with (first
      | (go_at_call 12; refine (szHung_calls _ _ _ _ _ _ _ hs (by omega) (by omega)).mono ?_; rintro e w1 ⟨rfl, hb⟩; obtain ⟨hc, hf⟩ := bcell hb; have hz := hb.size; (try simp at hz); (try have hl0 : w.heap.size < w1.heap.size := by omega); (try have hl1 : w.heap.size + 1 < w1.heap.size := by omega); (try have hl2 : w.heap.size + 1 + 1 < w1.heap.size := by omega); replace hB : Below w.heap.size w w1 := Below.trans (by go_grown) (hb.mono (by go_size)); clear hb; rw [if_neg h])
      | (go_at_call 14; refine (toHung_calls _ _ _ _ _ _).mono ?_; rintro e w1 ⟨rfl, hb⟩; obtain ⟨hc, hf⟩ := bcell hb; have hz := hb.size; (try simp at hz); (try have hl0 : w.heap.size < w1.heap.size := by omega); (try have hl1 : w.heap.size + 1 < w1.heap.size := by omega); (try have hl2 : w.heap.size + 1 + 1 < w1.heap.size := by omega); replace hB : Below w.heap.size w w1 := Below.trans (by go_grown) (hb.mono (by go_size)); clear hb; (try have hla : wa.heap.size < w1.heap.size := by omega))
      | (go_at_call 13; refine (scounter_calls _ _ _ _ _ _ _ _ _ _ _ _ _ _ hs HX.out).mono ?_; rintro e wa ⟨rfl, hb⟩; obtain ⟨hc, hf⟩ := bcell hb; have hz := hb.size; have hl0 : w.heap.size < wa.heap.size := (by omega); replace hB : Below w.heap.size w wa := hB.trans (hb.mono hB.size); clear hb)
      | (go_at_call 15; refine (counter_calls _ _ _ _ _ _ _ _ _ _ _ _ _ _ hs HX.out).mono ?_; rintro e w1 ⟨rfl, hb⟩; obtain ⟨hc, hf⟩ := bcell hb; have hz := hb.size; (try simp at hz); (try have hl0 : w.heap.size < w1.heap.size := by omega); (try have hl1 : w.heap.size + 1 < w1.heap.size := by omega); (try have hl2 : w.heap.size + 1 + 1 < w1.heap.size := by omega); replace hB : Below w.heap.size w w1 := Below.trans (by go_grown) (hb.mono (by go_size)); clear hb; (try have hla : wa.heap.size < w1.heap.size := by omega))
      | (go_at_call 16; refine (eqHung_calls _ _ _ _ _ _).mono ?_; rintro e w1 ⟨rfl, hb⟩; obtain ⟨hc, hf⟩ := bcell hb; have hz := hb.size; (try simp at hz); (try have hl0 : w.heap.size < w1.heap.size := by omega); (try have hl1 : w.heap.size + 1 < w1.heap.size := by omega); (try have hl2 : w.heap.size + 1 + 1 < w1.heap.size := by omega); replace hB : Below w.heap.size w w1 := Below.trans (by go_grown) (hb.mono (by go_size)); clear hb; (try have hla : wa.heap.size < w1.heap.size := by omega)))
    go_ret
    exact ⟨rfl, hB⟩

theorem own : ownKnob Try.prog.godebug = none := by kernel_rfl
theorem laidOut : laidOutB Try.prog = true := by kernel_rfl
set_option maxRecDepth 100000 in
theorem lifted (os : Os) (started : os.Started) (H : Type) (enc : TypeId × Value → H) :
    ReturnsInHanded {} Try.checked os 4 .any (Rows.fnExactCounterweightSpec.pre6 enc Try.prog Try.f4 Rows.fnExactCounterweightRow.domain false) (Rows.fnExactCounterweightSpec.post enc Try.prog Try.f4 false true false false) := by
  refine returnsInHanded_of_change (C := Try.checked) own started (by kernel_rfl) Try.func4
    (ChangeSpec.witness6 (enc := enc) (C := Try.checked) false ⟨#[], #[.agg #[.string ⟨#[]⟩, .int .i64 0, .int .i64 0, .int .i64 0, .int .i64 0], .int .i64 0, .int .i64 0], []⟩ 8 (by kernel_rfl) (by kernel_rfl) (by kernel_rfl) (by kernel_rfl)) ?_
  intro W base args ds gs before hval0 hW hcnd _
  have hval : ∀ (j : Nat) t v, Try.f4.params[j]? = some t → args[j]? = some v → Value.okWide Try.prog W .any base t v := hval0
  have hW' := hW
  obtain ⟨p, q, hA0, hV, rfl, hfz, hnd⟩ := hW
  have hA : DataW.TrodAll enc Try.prog W 0 (fun _ => true) true Try.f4.params.toList args.toList ds p := hA0
  rw [Try.params4] at hA hval
  obtain ⟨v0, vs0, d0, ds0, p0, q0, hargs, rfl, rfl, h0, r0⟩ := trodAll_cons hA
  obtain ⟨v1, vs1, d1, ds1, p1, q1, rfl, rfl, rfl, h1, r1⟩ := trodAll_cons r0
  obtain ⟨v2, vs2, d2, ds2, p2, q2, rfl, rfl, rfl, h2, r2⟩ := trodAll_cons r1
  obtain ⟨rfl, rfl, rfl⟩ := trodAll_nil r2
  obtain rfl : args = #[v0, v1, v2] := by cases args; simp_all
  obtain ⟨rfl, rfl⟩ := trodVars_none hV
  have k0 := h0
  have lt0 : ∀ x ∈ p0, x.block < W.heap.size := by obtain ⟨m, hm⟩ := k0; exact DataW.trod_lt m _ _ _ hm
  have k1 := h1
  have lt1 : ∀ x ∈ p1, x.block < W.heap.size := by obtain ⟨m, hm⟩ := k1; exact DataW.trod_lt m _ _ _ hm
  have k2 := h2
  have lt2 : ∀ x ∈ p2, x.block < W.heap.size := by obtain ⟨m, hm⟩ := k2; exact DataW.trod_lt m _ _ _ hm
  obtain ⟨cs0, rfl, hz0⟩ := okWide_struct Try.underlying31 (hval 0 31 v0 rfl rfl)
  obtain ⟨l0⟩ := cs0
  obtain ⟨fu0, hf0⟩ := h0
  obtain ⟨hl0, n0, hg0⟩ := fields_of Try.underlying31 (by kernel_rfl) (by kernel_rfl) hf0
  obtain ⟨c0_0, c0_1, c0_2, c0_3, c0_4, rfl⟩ := list5 hl0
  obtain ⟨y0_0, t0_0⟩ := hg0 0 _ rfl c0_0 rfl
  obtain ⟨s0_0, e0_0, _, ws0_0⟩ := DataW.trod_string Try.underlying9 t0_0
  obtain rfl := one_cell e0_0
  obtain ⟨y0_1, t0_1⟩ := hg0 1 _ rfl c0_1 rfl
  obtain ⟨a0_1, e0_1, _, wa0_1⟩ := DataW.trod_int Try.underlying2 t0_1
  obtain rfl := one_cell e0_1
  obtain ⟨y0_2, t0_2⟩ := hg0 2 _ rfl c0_2 rfl
  obtain ⟨a0_2, e0_2, _, wa0_2⟩ := DataW.trod_int Try.underlying2 t0_2
  obtain rfl := one_cell e0_2
  obtain ⟨y0_3, t0_3⟩ := hg0 3 _ rfl c0_3 rfl
  obtain ⟨a0_3, e0_3, _, wa0_3⟩ := DataW.trod_int Try.underlying2 t0_3
  obtain rfl := one_cell e0_3
  obtain ⟨y0_4, t0_4⟩ := hg0 4 _ rfl c0_4 rfl
  obtain ⟨a0_4, e0_4, _, wa0_4⟩ := DataW.trod_int Try.underlying2 t0_4
  obtain rfl := one_cell e0_4
  obtain ⟨a1, rfl, _, _, wa1⟩ := open_int Try.underlying2 (hval 1 2 v1 rfl rfl) h1
  obtain ⟨a2, rfl, _, _, wa2⟩ := open_int Try.underlying2 (hval 2 2 v2 rfl rfl) h2
  clear hA0 hval0
  refine (walk s0_0 a0_1 a0_2 a0_3 a0_4 a1 a2 W ws0_0 wa0_1 wa0_2 wa0_3 wa0_4 wa1 wa2).mono fun e W' ⟨he, bel⟩ => ?_
  subst he
  exact ⟨_, rfl, _, _, _, [], _, [], hW', trodAll_mk1 (shut_bool Try.underlying4 _), (trodAll_cons_mk (Below.trod laidOut (by kernel_rfl) (of_decide_eq_true (by kernel_rfl)) k0 bel lt0) (trodAll_cons_mk (Below.trod laidOut (by kernel_rfl) (of_decide_eq_true (by kernel_rfl)) k1 bel lt1) (trodAll_cons_mk (Below.trod laidOut (by kernel_rfl) (of_decide_eq_true (by kernel_rfl)) k2 bel lt2) trodAll_mk0))), rfl, bel.frame _, fun h => by cases h⟩
theorem proved : Rows.FnExactCounterweightSaid :=
  OpenClaim.holds_of_wide 4 Try.f4 rfl rfl rfl rfl rfl rfl rfl ⟨rfl, rfl, rfl, rfl, rfl⟩ rfl rfl rfl rfl rfl (by kernel_rfl) Try.func4 (by kernel_rfl)
    (of_decide_eq_true (by kernel_rfl)) (by unfold Func.isWrapper; first | (rw [if_pos (by decide +kernel)]; kernel_rfl) | (rw [if_neg (by decide +kernel)]; exact ⟨rfl, rfl⟩))
    (fun os started H enc _ => lifted os started H enc)
end Go.Proofs.Ytkbjampfmcegpaa.FnExactCounterweight
