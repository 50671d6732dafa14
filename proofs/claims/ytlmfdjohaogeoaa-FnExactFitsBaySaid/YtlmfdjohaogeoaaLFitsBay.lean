/- FnExactFitsBay: the program's FitsBay and the reference's give the same of every bay and casting. No further condition. -/


import Derived.Test.YtlmfdjohaogeoaaRows
import Derived.Test.YtlmfdjohaogeoaaFrame
import Derived.Test.YtlmfdjohaogeoaaFits
namespace Go.Proofs.Ytlmfdjohaogeoaa.FnExactFitsBay
set_option linter.unusedVariables false
open Go.ChangeShapes Go.WideShapes Go.ChangeAt Go.RowKit Go.Deep
open Go.ChangeMaps (open_string shut_string)
def SB (s : ByteArray) (r d : Int) (s2 : ByteArray) (r2 d2 t f : Int) (w w' : World) : Prop := Below w.heap.size w w' ∧ w.heap.size + 1 < w'.heap.size ∧ w'.cell? ⟨w.heap.size, 0, none⟩ = some (.string s) ∧ w'.cell? ⟨w.heap.size, 1, none⟩ = some (.int .i64 r) ∧ w'.cell? ⟨w.heap.size, 2, none⟩ = some (.int .i64 d) ∧ w'.cell? ⟨w.heap.size + 1, 0, none⟩ = some (.string s2) ∧ w'.cell? ⟨w.heap.size + 1, 1, none⟩ = some (.int .i64 r2) ∧ w'.cell? ⟨w.heap.size + 1, 2, none⟩ = some (.int .i64 d2) ∧ w'.cell? ⟨w.heap.size + 1, 3, none⟩ = some (.int .i64 t) ∧ w'.cell? ⟨w.heap.size + 1, 4, none⟩ = some (.int .i64 f)
theorem SB.step {s : ByteArray} {r d : Int} {s2 : ByteArray} {r2 d2 t f : Int} {w w' w2 : World} (h : SB s r d s2 r2 d2 t f w w') (hb : Below w'.heap.size w' w2) : SB s r d s2 r2 d2 t f w w2 := by
  obtain ⟨x0, x1, x2, x3, x4, x5, x6, x7, x8, x9⟩ := h
  exact ⟨x0.trans (hb.mono (by omega)), Nat.lt_of_lt_of_le x1 hb.size, (hb.cell (p := ⟨_, _, none⟩) (Nat.lt_of_succ_lt x1)).trans x2, (hb.cell (p := ⟨_, _, none⟩) (Nat.lt_of_succ_lt x1)).trans x3, (hb.cell (p := ⟨_, _, none⟩) (Nat.lt_of_succ_lt x1)).trans x4, (hb.cell (p := ⟨_, _, none⟩) (x1)).trans x5, (hb.cell (p := ⟨_, _, none⟩) (x1)).trans x6, (hb.cell (p := ⟨_, _, none⟩) (x1)).trans x7, (hb.cell (p := ⟨_, _, none⟩) (x1)).trans x8, (hb.cell (p := ⟨_, _, none⟩) (x1)).trans x9⟩
set_option maxHeartbeats 2000000 in
theorem walk (s : ByteArray) (r d : Int) (s2 : ByteArray) (r2 d2 t f : Int) (w : World) (hs : s.size ≤ maxLen) (wr : (Lit.int .i64 r).wf = true) (wd : (Lit.int .i64 d).wf = true) (hs2 : s2.size ≤ maxLen) (wr2 : (Lit.int .i64 r2).wf = true) (wd2 : (Lit.int .i64 d2).wf = true) (wt : (Lit.int .i64 t).wf = true) (wf : (Lit.int .i64 f).wf = true) :
    Calls Try.prog 10 #[.agg #[.string s, .int .i64 r, .int .i64 d], .agg #[.string s2, .int .i64 r2, .int .i64 d2, .int .i64 t, .int .i64 f]] w fun e w' => e = .returned (.bool true) ∧ Below w.heap.size w w' := by
  have hB := Below.refl w.heap.size w
  by_cases h : (1048576 : Int) < s.size
  · go_enter Try.func10, Try.ntmps10
    go_wp2_with ((go_at_call 33; refine (szBay_calls _ _ _ _ _ hs (by omega) (by omega)).mono ?_; rintro e w1 ⟨rfl, hb⟩; obtain ⟨hc, hf⟩ := bcell hb; have hz := hb.size; (try simp at hz); (try have hl0 : w.heap.size < w1.heap.size := by omega); (try have hl1 : w.heap.size + 1 < w1.heap.size := by omega); (try have hl2 : w.heap.size + 1 + 1 < w1.heap.size := by omega); replace hB : Below w.heap.size w w1 := Below.trans (by go_grown) (hb.mono (by go_size)); clear hb); rw [if_pos h])
    go_ret
    exact ⟨rfl, hB⟩
  · by_cases h2 : (1048576 : Int) - s.size < s2.size
    · go_enter Try.func10, Try.ntmps10
      go_wp2_with (first | ((go_at_call 33; refine (szBay_calls _ _ _ _ _ hs (by omega) (by omega)).mono ?_; rintro e w1 ⟨rfl, hb⟩; obtain ⟨hc, hf⟩ := bcell hb; have hz := hb.size; (try simp at hz); (try have hl0 : w.heap.size < w1.heap.size := by omega); (try have hl1 : w.heap.size + 1 < w1.heap.size := by omega); (try have hl2 : w.heap.size + 1 + 1 < w1.heap.size := by omega); replace hB : Below w.heap.size w w1 := Below.trans (by go_grown) (hb.mono (by go_size)); clear hb); rw [if_neg (by omega)]) | ((go_at_call 34; refine (szCasting_calls _ _ _ _ _ _ _ hs2 (by omega) (by omega)).mono ?_; rintro e w1 ⟨rfl, hb⟩; obtain ⟨hc, hf⟩ := bcell hb; have hz := hb.size; (try simp at hz); (try have hl0 : w.heap.size < w1.heap.size := by omega); (try have hl1 : w.heap.size + 1 < w1.heap.size := by omega); (try have hl2 : w.heap.size + 1 + 1 < w1.heap.size := by omega); replace hB : Below w.heap.size w w1 := Below.trans (by go_grown) (hb.mono (by go_size)); clear hb); rw [if_pos (by omega)]))
      go_ret
      exact ⟨rfl, hB⟩
    · go_enter Try.func10, Try.ntmps10
      go_wp2_with (first
        | (go_at_call 33; refine (szBay_calls _ _ _ _ _ hs (by omega) (by omega)).mono ?_; rintro e w1 ⟨rfl, hb⟩; rw [if_neg (by omega)]; have gg0 : Below w.heap.size w w1 := Below.trans (by go_grown) (hb.mono (by go_size)); have gg1 : w.heap.size + 1 < w1.heap.size := (by have hz := hb.size; simp at hz; omega); have gg2 : w1.cell? ⟨w.heap.size, 0, none⟩ = some (.string s) := (hb.cell (p := ⟨_, _, none⟩) (by simp <;> omega)).trans (by simp); have gg3 : w1.cell? ⟨w.heap.size, 1, none⟩ = some (.int .i64 r) := (hb.cell (p := ⟨_, _, none⟩) (by simp <;> omega)).trans (by simp); have gg4 : w1.cell? ⟨w.heap.size, 2, none⟩ = some (.int .i64 d) := (hb.cell (p := ⟨_, _, none⟩) (by simp <;> omega)).trans (by simp); have gg5 : w1.cell? ⟨w.heap.size + 1, 0, none⟩ = some (.string s2) := (hb.cell (p := ⟨_, _, none⟩) (by simp <;> omega)).trans (by simp); have gg6 : w1.cell? ⟨w.heap.size + 1, 1, none⟩ = some (.int .i64 r2) := (hb.cell (p := ⟨_, _, none⟩) (by simp <;> omega)).trans (by simp); have gg7 : w1.cell? ⟨w.heap.size + 1, 2, none⟩ = some (.int .i64 d2) := (hb.cell (p := ⟨_, _, none⟩) (by simp <;> omega)).trans (by simp); have gg8 : w1.cell? ⟨w.heap.size + 1, 3, none⟩ = some (.int .i64 t) := (hb.cell (p := ⟨_, _, none⟩) (by simp <;> omega)).trans (by simp); have gg9 : w1.cell? ⟨w.heap.size + 1, 4, none⟩ = some (.int .i64 f) := (hb.cell (p := ⟨_, _, none⟩) (by simp <;> omega)).trans (by simp); have hD := Lib.hid (show SB s r d s2 r2 d2 t f w w1 from ⟨gg0, gg1, gg2, gg3, gg4, gg5, gg6, gg7, gg8, gg9⟩); clear hb gg0)
        | (go_at_call 34; refine (szCasting_calls _ _ _ _ _ _ _ hs2 (by omega) (by omega)).mono ?_; rintro e w1 ⟨rfl, hb⟩; rw [if_neg (by omega)]; have hE := Lib.hid (hD.out.step hb); clear hb)
        | fail)
      obtain ⟨gg0, gg1, gg2, gg3, gg4, gg5, gg6, gg7, gg8, gg9⟩ := hE.out
      go_region_held3 (fun w' => Below w.heap.size w w' ∧ w.heap.size + 1 < w'.heap.size ∧ w'.cell? ⟨w.heap.size, 0, none⟩ = some (.string s) ∧ w'.cell? ⟨w.heap.size, 1, none⟩ = some (.int .i64 r) ∧ w'.cell? ⟨w.heap.size, 2, none⟩ = some (.int .i64 d) ∧ w'.cell? ⟨w.heap.size + 1, 0, none⟩ = some (.string s2) ∧ w'.cell? ⟨w.heap.size + 1, 1, none⟩ = some (.int .i64 r2) ∧ w'.cell? ⟨w.heap.size + 1, 2, none⟩ = some (.int .i64 d2) ∧ w'.cell? ⟨w.heap.size + 1, 3, none⟩ = some (.int .i64 t) ∧ w'.cell? ⟨w.heap.size + 1, 4, none⟩ = some (.int .i64 f))
        (first
          | exact ⟨gg0.drew, gg1, gg2, gg3, gg4, gg5, gg6, gg7, gg8, gg9⟩
          | assumption
          | (obtain ⟨x0, x1, x2, x3, x4, x5, x6, x7, x8, x9⟩ := ‹Below _ _ _ ∧ _›; exact ⟨x0.trans (hb.mono (by omega)), Nat.lt_of_lt_of_le x1 hb.size, (hb.cell (p := ⟨_, _, none⟩) (Nat.lt_of_succ_lt x1)).trans x2, (hb.cell (p := ⟨_, _, none⟩) (Nat.lt_of_succ_lt x1)).trans x3, (hb.cell (p := ⟨_, _, none⟩) (Nat.lt_of_succ_lt x1)).trans x4, (hb.cell (p := ⟨_, _, none⟩) (x1)).trans x5, (hb.cell (p := ⟨_, _, none⟩) (x1)).trans x6, (hb.cell (p := ⟨_, _, none⟩) (x1)).trans x7, (hb.cell (p := ⟨_, _, none⟩) (x1)).trans x8, (hb.cell (p := ⟨_, _, none⟩) (x1)).trans x9⟩)
          | go_keep)
        (first
          | (go_at_call 36; refine (toBay_calls _ _ _ _).mono ?_; rintro e w1 ⟨rfl, hb⟩)
          | (go_at_call 37; refine (toCasting_calls _ _ _ _ _ _).mono ?_; rintro e w1 ⟨rfl, hb⟩)
          | (go_at_call 35; refine (sFitsBay_calls _ _ _ _ _ _ _ _ _ hs hs2).mono ?_; rintro e w1 ⟨rfl, hb⟩))
      all_goals
        obtain ⟨gg0, gg1, gg2, gg3, gg4, gg5, gg6, gg7, gg8, gg9⟩ := ‹Below _ _ _ ∧ _›
        go_wp2_with fail
        go_region_held3 (fun w' => Below w.heap.size w w' ∧ w.heap.size + 1 < w'.heap.size ∧ w'.cell? ⟨w.heap.size, 0, none⟩ = some (.string s) ∧ w'.cell? ⟨w.heap.size, 1, none⟩ = some (.int .i64 r) ∧ w'.cell? ⟨w.heap.size, 2, none⟩ = some (.int .i64 d) ∧ w'.cell? ⟨w.heap.size + 1, 0, none⟩ = some (.string s2) ∧ w'.cell? ⟨w.heap.size + 1, 1, none⟩ = some (.int .i64 r2) ∧ w'.cell? ⟨w.heap.size + 1, 2, none⟩ = some (.int .i64 d2) ∧ w'.cell? ⟨w.heap.size + 1, 3, none⟩ = some (.int .i64 t) ∧ w'.cell? ⟨w.heap.size + 1, 4, none⟩ = some (.int .i64 f))
          (first
            | exact ⟨gg0.drew, gg1, gg2, gg3, gg4, gg5, gg6, gg7, gg8, gg9⟩
            | assumption
            | (obtain ⟨x0, x1, x2, x3, x4, x5, x6, x7, x8, x9⟩ := ‹Below _ _ _ ∧ _›; exact ⟨x0.trans (hb.mono (by omega)), Nat.lt_of_lt_of_le x1 hb.size, (hb.cell (p := ⟨_, _, none⟩) (Nat.lt_of_succ_lt x1)).trans x2, (hb.cell (p := ⟨_, _, none⟩) (Nat.lt_of_succ_lt x1)).trans x3, (hb.cell (p := ⟨_, _, none⟩) (Nat.lt_of_succ_lt x1)).trans x4, (hb.cell (p := ⟨_, _, none⟩) (x1)).trans x5, (hb.cell (p := ⟨_, _, none⟩) (x1)).trans x6, (hb.cell (p := ⟨_, _, none⟩) (x1)).trans x7, (hb.cell (p := ⟨_, _, none⟩) (x1)).trans x8, (hb.cell (p := ⟨_, _, none⟩) (x1)).trans x9⟩)
            | go_keep)
          (first
            | (go_at_call 36; refine (toBay_calls _ _ _ _).mono ?_; rintro e w1 ⟨rfl, hb⟩)
            | (go_at_call 37; refine (toCasting_calls _ _ _ _ _ _).mono ?_; rintro e w1 ⟨rfl, hb⟩)
            | (go_at_call 38; refine (FitsBay_calls _ _ _ _ _ _ _ _ _ hs hs2).mono ?_; rintro e w1 ⟨rfl, hb⟩))
        all_goals
          have hfin := (‹Below _ _ _ ∧ _›).1
          go_wp2
          go_ret
          exact ⟨rfl, hfin⟩

theorem own : ownKnob Try.prog.godebug = none := by kernel_rfl
theorem laidOut : laidOutB Try.prog = true := by kernel_rfl
set_option maxRecDepth 100000 in
theorem lifted (os : Os) (started : os.Started) (H : Type) (enc : TypeId × Value → H) :
    ReturnsInHanded {} Try.checked os 10 .any (Rows.fnExactFitsBaySpec.pre6 enc Try.prog Try.f10 Rows.fnExactFitsBayRow.domain false) (Rows.fnExactFitsBaySpec.post enc Try.prog Try.f10 false true false false) := by
  refine returnsInHanded_of_change (C := Try.checked) own started (by kernel_rfl) Try.func10
    (ChangeSpec.witness6 (enc := enc) (C := Try.checked) false ⟨#[], #[.agg #[.string ⟨#[]⟩, .int .i64 0, .int .i64 0], .agg #[.string ⟨#[]⟩, .int .i64 0, .int .i64 0, .int .i64 0, .int .i64 0]], []⟩ 8 (by kernel_rfl) (by kernel_rfl) (by kernel_rfl) (by kernel_rfl)) ?_
  intro W base args ds gs before hval0 hW hcnd _
  have hval : ∀ (j : Nat) t v, Try.f10.params[j]? = some t → args[j]? = some v → Value.okWide Try.prog W .any base t v := hval0
  have hW' := hW
  obtain ⟨p, q, hA0, hV, rfl, hfz, hnd⟩ := hW
  have hA : DataW.TrodAll enc Try.prog W 0 (fun _ => true) true Try.f10.params.toList args.toList ds p := hA0
  rw [Try.params10] at hA hval
  obtain ⟨v0, vs0, d0, ds0, p0, q0, hargs, rfl, rfl, h0, r0⟩ := trodAll_cons hA
  obtain ⟨v1, vs1, d1, ds1, p1, q1, rfl, rfl, rfl, h1, r1⟩ := trodAll_cons r0
  obtain ⟨rfl, rfl, rfl⟩ := trodAll_nil r1
  obtain rfl : args = #[v0, v1] := by cases args; simp_all
  obtain ⟨rfl, rfl⟩ := trodVars_none hV
  have k0 := h0
  have lt0 : ∀ x ∈ p0, x.block < W.heap.size := by obtain ⟨m, hm⟩ := k0; exact DataW.trod_lt m _ _ _ hm
  have k1 := h1
  have lt1 : ∀ x ∈ p1, x.block < W.heap.size := by obtain ⟨m, hm⟩ := k1; exact DataW.trod_lt m _ _ _ hm
  obtain ⟨cs0, rfl, hz0⟩ := okWide_struct Try.underlying42 (hval 0 42 v0 rfl rfl)
  obtain ⟨l0⟩ := cs0
  obtain ⟨fu0, hf0⟩ := h0
  obtain ⟨hl0, n0, hg0⟩ := fields_of Try.underlying42 (by kernel_rfl) (by kernel_rfl) hf0
  obtain ⟨c0_0, c0_1, c0_2, rfl⟩ := list3 hl0
  obtain ⟨y0_0, t0_0⟩ := hg0 0 _ rfl c0_0 rfl
  obtain ⟨s0_0, e0_0, _, ws0_0⟩ := DataW.trod_string Try.underlying9 t0_0
  obtain rfl := one_cell e0_0
  obtain ⟨y0_1, t0_1⟩ := hg0 1 _ rfl c0_1 rfl
  obtain ⟨a0_1, e0_1, _, wa0_1⟩ := DataW.trod_int Try.underlying2 t0_1
  obtain rfl := one_cell e0_1
  obtain ⟨y0_2, t0_2⟩ := hg0 2 _ rfl c0_2 rfl
  obtain ⟨a0_2, e0_2, _, wa0_2⟩ := DataW.trod_int Try.underlying2 t0_2
  obtain rfl := one_cell e0_2
  obtain ⟨cs1, rfl, hz1⟩ := okWide_struct Try.underlying44 (hval 1 44 v1 rfl rfl)
  obtain ⟨l1⟩ := cs1
  obtain ⟨fu1, hf1⟩ := h1
  obtain ⟨hl1, n1, hg1⟩ := fields_of Try.underlying44 (by kernel_rfl) (by kernel_rfl) hf1
  obtain ⟨c1_0, c1_1, c1_2, c1_3, c1_4, rfl⟩ := list5 hl1
  obtain ⟨y1_0, t1_0⟩ := hg1 0 _ rfl c1_0 rfl
  obtain ⟨s1_0, e1_0, _, ws1_0⟩ := DataW.trod_string Try.underlying9 t1_0
  obtain rfl := one_cell e1_0
  obtain ⟨y1_1, t1_1⟩ := hg1 1 _ rfl c1_1 rfl
  obtain ⟨a1_1, e1_1, _, wa1_1⟩ := DataW.trod_int Try.underlying2 t1_1
  obtain rfl := one_cell e1_1
  obtain ⟨y1_2, t1_2⟩ := hg1 2 _ rfl c1_2 rfl
  obtain ⟨a1_2, e1_2, _, wa1_2⟩ := DataW.trod_int Try.underlying2 t1_2
  obtain rfl := one_cell e1_2
  obtain ⟨y1_3, t1_3⟩ := hg1 3 _ rfl c1_3 rfl
  obtain ⟨a1_3, e1_3, _, wa1_3⟩ := DataW.trod_int Try.underlying2 t1_3
  obtain rfl := one_cell e1_3
  obtain ⟨y1_4, t1_4⟩ := hg1 4 _ rfl c1_4 rfl
  obtain ⟨a1_4, e1_4, _, wa1_4⟩ := DataW.trod_int Try.underlying2 t1_4
  obtain rfl := one_cell e1_4
  clear hA0 hval0
  refine (walk s0_0 a0_1 a0_2 s1_0 a1_1 a1_2 a1_3 a1_4 W ws0_0 wa0_1 wa0_2 ws1_0 wa1_1 wa1_2 wa1_3 wa1_4).mono fun e W' ⟨he, bel⟩ => ?_
  subst he
  exact ⟨_, rfl, _, _, _, [], _, [], hW', trodAll_mk1 (shut_bool Try.underlying4 _), (trodAll_cons_mk (Below.trod laidOut (by kernel_rfl) (of_decide_eq_true (by kernel_rfl)) k0 bel lt0) (trodAll_cons_mk (Below.trod laidOut (by kernel_rfl) (of_decide_eq_true (by kernel_rfl)) k1 bel lt1) trodAll_mk0)), rfl, bel.frame _, fun h => by cases h⟩
theorem proved : Rows.FnExactFitsBaySaid :=
  OpenClaim.holds_of_wide 10 Try.f10 rfl rfl rfl rfl rfl rfl rfl ⟨rfl, rfl, rfl, rfl, rfl⟩ rfl rfl rfl rfl rfl (by kernel_rfl) Try.func10 (by kernel_rfl)
    (of_decide_eq_true (by kernel_rfl)) (by unfold Func.isWrapper; first | (rw [if_pos (by decide +kernel)]; kernel_rfl) | (rw [if_neg (by decide +kernel)]; exact ⟨rfl, rfl⟩))
    (fun os started H enc _ => lifted os started H enc)
end Go.Proofs.Ytlmfdjohaogeoaa.FnExactFitsBay
