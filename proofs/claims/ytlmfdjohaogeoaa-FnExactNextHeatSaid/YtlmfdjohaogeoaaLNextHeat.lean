/- FnExactNextHeat: the program's NextHeat and the reference's give the same of every pour, crucible and time. No further condition. -/


import Derived.Deep.RegionHeld3
import Derived.Test.YtlmfdjohaogeoaaRows
import Derived.Test.YtlmfdjohaogeoaaFrame
import Derived.Test.YtlmfdjohaogeoaaNext
namespace Go.Proofs.Ytlmfdjohaogeoaa.FnExactNextHeat
set_option linter.unusedVariables false
open Go.ChangeShapes Go.WideShapes Go.ChangeAt Go.RowKit Go.Deep
open Go.ChangeMaps (open_string shut_string)
def SB (s : ByteArray) (m r d : Int) (s2 : ByteArray) (c h f : Int) (w w' : World) : Prop := Below w.heap.size w w' ∧ w.heap.size + 1 < w'.heap.size ∧ w'.cell? ⟨w.heap.size, 0, none⟩ = some (.string s) ∧ w'.cell? ⟨w.heap.size, 1, none⟩ = some (.int .i64 m) ∧ w'.cell? ⟨w.heap.size, 2, none⟩ = some (.int .i64 r) ∧ w'.cell? ⟨w.heap.size, 3, none⟩ = some (.int .i64 d) ∧ w'.cell? ⟨w.heap.size + 1, 0, none⟩ = some (.string s2) ∧ w'.cell? ⟨w.heap.size + 1, 1, none⟩ = some (.int .i64 c) ∧ w'.cell? ⟨w.heap.size + 1, 2, none⟩ = some (.int .i64 h) ∧ w'.cell? ⟨w.heap.size + 1, 3, none⟩ = some (.int .i64 f)
theorem SB.step {s : ByteArray} {m r d : Int} {s2 : ByteArray} {c h f : Int} {w w' w2 : World} (q : SB s m r d s2 c h f w w') (hb : Below w'.heap.size w' w2) : SB s m r d s2 c h f w w2 := by
  obtain ⟨x0_, x1_, x2_, x3_, x4_, x5_, x6_, x7_, x8_, x9_⟩ := q
  exact ⟨x0_.trans (hb.mono (by omega)), Nat.lt_of_lt_of_le x1_ hb.size, (hb.cell (p := ⟨_, _, none⟩) (Nat.lt_of_succ_lt x1_)).trans x2_, (hb.cell (p := ⟨_, _, none⟩) (Nat.lt_of_succ_lt x1_)).trans x3_, (hb.cell (p := ⟨_, _, none⟩) (Nat.lt_of_succ_lt x1_)).trans x4_, (hb.cell (p := ⟨_, _, none⟩) (Nat.lt_of_succ_lt x1_)).trans x5_, (hb.cell (p := ⟨_, _, none⟩) (x1_)).trans x6_, (hb.cell (p := ⟨_, _, none⟩) (x1_)).trans x7_, (hb.cell (p := ⟨_, _, none⟩) (x1_)).trans x8_, (hb.cell (p := ⟨_, _, none⟩) (x1_)).trans x9_⟩
set_option maxHeartbeats 4000000 in
theorem walk (s : ByteArray) (m r d : Int) (s2 : ByteArray) (c h f : Int) (free : Int) (w : World) (hs : s.size ≤ maxLen) (wm : (Lit.int .i64 m).wf = true) (wr : (Lit.int .i64 r).wf = true) (wd : (Lit.int .i64 d).wf = true) (hs2 : s2.size ≤ maxLen) (wc : (Lit.int .i64 c).wf = true) (wh : (Lit.int .i64 h).wf = true) (wf : (Lit.int .i64 f).wf = true) (wfree : (Lit.int .i64 free).wf = true) :
    Calls Try.prog 13 #[.agg #[.string s, .int .i64 m, .int .i64 r, .int .i64 d], .agg #[.string s2, .int .i64 c, .int .i64 h, .int .i64 f], .int .i64 free] w fun e w' => e = .returned (.bool true) ∧ Below w.heap.size w w' := by
  by_cases q1 : (1048576 : Int) < s.size
  · go_enter Try.func13, Try.ntmps13
    go_wp2_with (go_at_call 43; refine (szPour_calls _ _ _ _ _ _ hs (by omega) (by omega)).mono ?_; rintro e w1 ⟨rfl, hb⟩; rw [if_pos (by omega)]; have gg0 : Below w.heap.size w w1 := Below.trans (by go_grown) (hb.mono (by go_size)); have gg1 : w.heap.size + 1 < w1.heap.size := (by have hz := hb.size; simp at hz; omega); have gg2 : w1.cell? ⟨w.heap.size, 0, none⟩ = some (.string s) := (hb.cell (p := ⟨_, _, none⟩) (by simp <;> omega)).trans (by simp); have gg3 : w1.cell? ⟨w.heap.size, 1, none⟩ = some (.int .i64 m) := (hb.cell (p := ⟨_, _, none⟩) (by simp <;> omega)).trans (by simp); have gg4 : w1.cell? ⟨w.heap.size, 2, none⟩ = some (.int .i64 r) := (hb.cell (p := ⟨_, _, none⟩) (by simp <;> omega)).trans (by simp); have gg5 : w1.cell? ⟨w.heap.size, 3, none⟩ = some (.int .i64 d) := (hb.cell (p := ⟨_, _, none⟩) (by simp <;> omega)).trans (by simp); have gg6 : w1.cell? ⟨w.heap.size + 1, 0, none⟩ = some (.string s2) := (hb.cell (p := ⟨_, _, none⟩) (by simp <;> omega)).trans (by simp); have gg7 : w1.cell? ⟨w.heap.size + 1, 1, none⟩ = some (.int .i64 c) := (hb.cell (p := ⟨_, _, none⟩) (by simp <;> omega)).trans (by simp); have gg8 : w1.cell? ⟨w.heap.size + 1, 2, none⟩ = some (.int .i64 h) := (hb.cell (p := ⟨_, _, none⟩) (by simp <;> omega)).trans (by simp); have gg9 : w1.cell? ⟨w.heap.size + 1, 3, none⟩ = some (.int .i64 f) := (hb.cell (p := ⟨_, _, none⟩) (by simp <;> omega)).trans (by simp); have hD := Lib.hid (show SB s m r d s2 c h f w w1 from ⟨gg0, gg1, gg2, gg3, gg4, gg5, gg6, gg7, gg8, gg9⟩); clear hb gg0)
    go_ret
    exact ⟨rfl, hD.out.1⟩
  · by_cases q2 : (1048576 : Int) - s.size < s2.size
    · go_enter Try.func13, Try.ntmps13
      go_wp2_with (first | (go_at_call 43; refine (szPour_calls _ _ _ _ _ _ hs (by omega) (by omega)).mono ?_; rintro e w1 ⟨rfl, hb⟩; rw [if_neg (by omega)]; have gg0 : Below w.heap.size w w1 := Below.trans (by go_grown) (hb.mono (by go_size)); have gg1 : w.heap.size + 1 < w1.heap.size := (by have hz := hb.size; simp at hz; omega); have gg2 : w1.cell? ⟨w.heap.size, 0, none⟩ = some (.string s) := (hb.cell (p := ⟨_, _, none⟩) (by simp <;> omega)).trans (by simp); have gg3 : w1.cell? ⟨w.heap.size, 1, none⟩ = some (.int .i64 m) := (hb.cell (p := ⟨_, _, none⟩) (by simp <;> omega)).trans (by simp); have gg4 : w1.cell? ⟨w.heap.size, 2, none⟩ = some (.int .i64 r) := (hb.cell (p := ⟨_, _, none⟩) (by simp <;> omega)).trans (by simp); have gg5 : w1.cell? ⟨w.heap.size, 3, none⟩ = some (.int .i64 d) := (hb.cell (p := ⟨_, _, none⟩) (by simp <;> omega)).trans (by simp); have gg6 : w1.cell? ⟨w.heap.size + 1, 0, none⟩ = some (.string s2) := (hb.cell (p := ⟨_, _, none⟩) (by simp <;> omega)).trans (by simp); have gg7 : w1.cell? ⟨w.heap.size + 1, 1, none⟩ = some (.int .i64 c) := (hb.cell (p := ⟨_, _, none⟩) (by simp <;> omega)).trans (by simp); have gg8 : w1.cell? ⟨w.heap.size + 1, 2, none⟩ = some (.int .i64 h) := (hb.cell (p := ⟨_, _, none⟩) (by simp <;> omega)).trans (by simp); have gg9 : w1.cell? ⟨w.heap.size + 1, 3, none⟩ = some (.int .i64 f) := (hb.cell (p := ⟨_, _, none⟩) (by simp <;> omega)).trans (by simp); have hD := Lib.hid (show SB s m r d s2 c h f w w1 from ⟨gg0, gg1, gg2, gg3, gg4, gg5, gg6, gg7, gg8, gg9⟩); clear hb gg0) | (go_at_call 44; refine (szCrucible_calls _ _ _ _ _ _ hs2 (by omega) (by omega)).mono ?_; rintro e w1 ⟨rfl, hb⟩; rw [if_pos (by omega)]; have hE := Lib.hid (hD.out.step hb); clear hb))
      go_ret
      exact ⟨rfl, hE.out.1⟩
    · go_enter Try.func13, Try.ntmps13
      go_wp2_with (first | (go_at_call 43; refine (szPour_calls _ _ _ _ _ _ hs (by omega) (by omega)).mono ?_; rintro e w1 ⟨rfl, hb⟩; rw [if_neg (by omega)]; have gg0 : Below w.heap.size w w1 := Below.trans (by go_grown) (hb.mono (by go_size)); have gg1 : w.heap.size + 1 < w1.heap.size := (by have hz := hb.size; simp at hz; omega); have gg2 : w1.cell? ⟨w.heap.size, 0, none⟩ = some (.string s) := (hb.cell (p := ⟨_, _, none⟩) (by simp <;> omega)).trans (by simp); have gg3 : w1.cell? ⟨w.heap.size, 1, none⟩ = some (.int .i64 m) := (hb.cell (p := ⟨_, _, none⟩) (by simp <;> omega)).trans (by simp); have gg4 : w1.cell? ⟨w.heap.size, 2, none⟩ = some (.int .i64 r) := (hb.cell (p := ⟨_, _, none⟩) (by simp <;> omega)).trans (by simp); have gg5 : w1.cell? ⟨w.heap.size, 3, none⟩ = some (.int .i64 d) := (hb.cell (p := ⟨_, _, none⟩) (by simp <;> omega)).trans (by simp); have gg6 : w1.cell? ⟨w.heap.size + 1, 0, none⟩ = some (.string s2) := (hb.cell (p := ⟨_, _, none⟩) (by simp <;> omega)).trans (by simp); have gg7 : w1.cell? ⟨w.heap.size + 1, 1, none⟩ = some (.int .i64 c) := (hb.cell (p := ⟨_, _, none⟩) (by simp <;> omega)).trans (by simp); have gg8 : w1.cell? ⟨w.heap.size + 1, 2, none⟩ = some (.int .i64 h) := (hb.cell (p := ⟨_, _, none⟩) (by simp <;> omega)).trans (by simp); have gg9 : w1.cell? ⟨w.heap.size + 1, 3, none⟩ = some (.int .i64 f) := (hb.cell (p := ⟨_, _, none⟩) (by simp <;> omega)).trans (by simp); have hD := Lib.hid (show SB s m r d s2 c h f w w1 from ⟨gg0, gg1, gg2, gg3, gg4, gg5, gg6, gg7, gg8, gg9⟩); clear hb gg0) | (go_at_call 44; refine (szCrucible_calls _ _ _ _ _ _ hs2 (by omega) (by omega)).mono ?_; rintro e w1 ⟨rfl, hb⟩; rw [if_neg (by omega)]; have hE := Lib.hid (hD.out.step hb); clear hb) | fail)
      obtain ⟨gg0, gg1, gg2, gg3, gg4, gg5, gg6, gg7, gg8, gg9⟩ := hE.out
      go_region_held3 (fun w' => Below w.heap.size w w' ∧ w.heap.size + 1 < w'.heap.size ∧ w'.cell? ⟨w.heap.size, 0, none⟩ = some (.string s) ∧ w'.cell? ⟨w.heap.size, 1, none⟩ = some (.int .i64 m) ∧ w'.cell? ⟨w.heap.size, 2, none⟩ = some (.int .i64 r) ∧ w'.cell? ⟨w.heap.size, 3, none⟩ = some (.int .i64 d) ∧ w'.cell? ⟨w.heap.size + 1, 0, none⟩ = some (.string s2) ∧ w'.cell? ⟨w.heap.size + 1, 1, none⟩ = some (.int .i64 c) ∧ w'.cell? ⟨w.heap.size + 1, 2, none⟩ = some (.int .i64 h) ∧ w'.cell? ⟨w.heap.size + 1, 3, none⟩ = some (.int .i64 f))
        (first
          | exact ⟨gg0.drew, gg1, gg2, gg3, gg4, gg5, gg6, gg7, gg8, gg9⟩
          | assumption
          | (obtain ⟨x0_, x1_, x2_, x3_, x4_, x5_, x6_, x7_, x8_, x9_⟩ := ‹Below _ _ _ ∧ _›; exact ⟨x0_.trans (hb.mono (by omega)), Nat.lt_of_lt_of_le x1_ hb.size, (hb.cell (p := ⟨_, _, none⟩) (Nat.lt_of_succ_lt x1_)).trans x2_, (hb.cell (p := ⟨_, _, none⟩) (Nat.lt_of_succ_lt x1_)).trans x3_, (hb.cell (p := ⟨_, _, none⟩) (Nat.lt_of_succ_lt x1_)).trans x4_, (hb.cell (p := ⟨_, _, none⟩) (Nat.lt_of_succ_lt x1_)).trans x5_, (hb.cell (p := ⟨_, _, none⟩) (x1_)).trans x6_, (hb.cell (p := ⟨_, _, none⟩) (x1_)).trans x7_, (hb.cell (p := ⟨_, _, none⟩) (x1_)).trans x8_, (hb.cell (p := ⟨_, _, none⟩) (x1_)).trans x9_⟩)
          | go_keep)
        (first
          | (go_at_call 46; refine (toPour_calls _ _ _ _ _).mono ?_; rintro e w1 ⟨rfl, hb⟩)
          | (go_at_call 47; refine (toCrucible_calls _ _ _ _ _).mono ?_; rintro e w1 ⟨rfl, hb⟩)
          | (go_at_call 45; refine (sNextHeat_calls _ _ _ _ _ _ _ _ _ _ hs hs2).mono ?_; rintro e w1 ⟨rfl, hb⟩))
      all_goals
        obtain ⟨gg0, gg1, gg2, gg3, gg4, gg5, gg6, gg7, gg8, gg9⟩ := ‹Below _ _ _ ∧ _›
        go_wp2_with fail
        go_region_held3 (fun w' => Below w.heap.size w w' ∧ w.heap.size + 1 < w'.heap.size ∧ w'.cell? ⟨w.heap.size, 0, none⟩ = some (.string s) ∧ w'.cell? ⟨w.heap.size, 1, none⟩ = some (.int .i64 m) ∧ w'.cell? ⟨w.heap.size, 2, none⟩ = some (.int .i64 r) ∧ w'.cell? ⟨w.heap.size, 3, none⟩ = some (.int .i64 d) ∧ w'.cell? ⟨w.heap.size + 1, 0, none⟩ = some (.string s2) ∧ w'.cell? ⟨w.heap.size + 1, 1, none⟩ = some (.int .i64 c) ∧ w'.cell? ⟨w.heap.size + 1, 2, none⟩ = some (.int .i64 h) ∧ w'.cell? ⟨w.heap.size + 1, 3, none⟩ = some (.int .i64 f))
          (first
            | exact ⟨gg0.drew, gg1, gg2, gg3, gg4, gg5, gg6, gg7, gg8, gg9⟩
            | assumption
            | (obtain ⟨x0_, x1_, x2_, x3_, x4_, x5_, x6_, x7_, x8_, x9_⟩ := ‹Below _ _ _ ∧ _›; exact ⟨x0_.trans (hb.mono (by omega)), Nat.lt_of_lt_of_le x1_ hb.size, (hb.cell (p := ⟨_, _, none⟩) (Nat.lt_of_succ_lt x1_)).trans x2_, (hb.cell (p := ⟨_, _, none⟩) (Nat.lt_of_succ_lt x1_)).trans x3_, (hb.cell (p := ⟨_, _, none⟩) (Nat.lt_of_succ_lt x1_)).trans x4_, (hb.cell (p := ⟨_, _, none⟩) (Nat.lt_of_succ_lt x1_)).trans x5_, (hb.cell (p := ⟨_, _, none⟩) (x1_)).trans x6_, (hb.cell (p := ⟨_, _, none⟩) (x1_)).trans x7_, (hb.cell (p := ⟨_, _, none⟩) (x1_)).trans x8_, (hb.cell (p := ⟨_, _, none⟩) (x1_)).trans x9_⟩)
            | go_keep)
          (first
            | (go_at_call 46; refine (toPour_calls _ _ _ _ _).mono ?_; rintro e w1 ⟨rfl, hb⟩)
            | (go_at_call 47; refine (toCrucible_calls _ _ _ _ _).mono ?_; rintro e w1 ⟨rfl, hb⟩)
            | (go_at_call 48; refine (NextHeat_calls _ _ _ _ _ _ _ _ _ _ hs hs2).mono ?_; rintro e w1 ⟨rfl, hb⟩))
        all_goals
          have hfin := (‹Below _ _ _ ∧ _›).1
          go_wp2
          go_ret
          exact ⟨rfl, hfin⟩

theorem own : ownKnob Try.prog.godebug = none := by kernel_rfl
theorem laidOut : laidOutB Try.prog = true := by kernel_rfl
set_option maxRecDepth 100000 in
theorem lifted (os : Os) (started : os.Started) (H : Type) (enc : TypeId × Value → H) :
    ReturnsInHanded {} Try.checked os 13 .any (Rows.fnExactNextHeatSpec.pre6 enc Try.prog Try.f13 Rows.fnExactNextHeatRow.domain false) (Rows.fnExactNextHeatSpec.post enc Try.prog Try.f13 false true false false) := by
  refine returnsInHanded_of_change (C := Try.checked) own started (by kernel_rfl) Try.func13
    (ChangeSpec.witness6 (enc := enc) (C := Try.checked) false ⟨#[], #[.agg #[.string ⟨#[]⟩, .int .i64 0, .int .i64 0, .int .i64 0], .agg #[.string ⟨#[]⟩, .int .i64 0, .int .i64 0, .int .i64 0], .int .i64 0], []⟩ 8 (by kernel_rfl) (by kernel_rfl) (by kernel_rfl) (by kernel_rfl)) ?_
  intro W base args ds gs before hval0 hW hcnd _
  have hval : ∀ (j : Nat) t v, Try.f13.params[j]? = some t → args[j]? = some v → Value.okWide Try.prog W .any base t v := hval0
  have hW' := hW
  obtain ⟨p, q, hA0, hV, rfl, hfz, hnd⟩ := hW
  have hA : DataW.TrodAll enc Try.prog W 0 (fun _ => true) true Try.f13.params.toList args.toList ds p := hA0
  rw [Try.params13] at hA hval
  obtain ⟨v0, vs0, d0, ds0, p0, q0, hargs, rfl, rfl, h0, r0⟩ := trodAll_cons hA
  obtain ⟨v1, vs1, d1, ds1, p1, q1, rfl, rfl, rfl, h1, r1⟩ := trodAll_cons r0
  obtain ⟨v2, vs2, d2, ds2, p2, q2, rfl, rfl, rfl, h2, r2⟩ := trodAll_cons r1
  obtain ⟨rfl, rfl, rfl⟩ := trodAll_nil r2
  obtain rfl : args = #[v0, v1, v2] := by cases args; simp_all
  obtain ⟨rfl, rfl⟩ := trodVars_none hV
  have k0 := h0
  have lt0 : ∀ x ∈ p0, x.block < W.heap.size := by obtain ⟨m, hm⟩ := k0; exact DataW.trod_lt m _ _ _ hm
  have k1 := h1
  have lt1 : ∀ x ∈ p1, x.block < W.heap.size := by obtain ⟨m, hm⟩ := k1; exact DataW.trod_lt m _ _ _ hm
  have k2 := h2
  have lt2 : ∀ x ∈ p2, x.block < W.heap.size := by obtain ⟨m, hm⟩ := k2; exact DataW.trod_lt m _ _ _ hm
  obtain ⟨cs0, rfl, hz0⟩ := okWide_struct Try.underlying56 (hval 0 56 v0 rfl rfl)
  obtain ⟨l0⟩ := cs0
  obtain ⟨fu0, hf0⟩ := h0
  obtain ⟨hl0, n0, hg0⟩ := fields_of Try.underlying56 (by kernel_rfl) (by kernel_rfl) hf0
  obtain ⟨c0_0, c0_1, c0_2, c0_3, rfl⟩ := list4 hl0
  obtain ⟨y0_0, t0_0⟩ := hg0 0 _ rfl c0_0 rfl
  obtain ⟨s0_0, e0_0, _, ws0_0⟩ := DataW.trod_string Try.underlying9 t0_0
  obtain rfl := one_cell e0_0
  obtain ⟨y0_1, t0_1⟩ := hg0 1 _ rfl c0_1 rfl
  obtain ⟨a0_1, e0_1, _, wa0_1⟩ := DataW.trod_int Try.underlying2 t0_1
  obtain rfl := one_cell e0_1
  obtain ⟨y0_2, t0_2⟩ := hg0 2 _ rfl c0_2 rfl
  obtain ⟨a0_2, e0_2, _, wa0_2⟩ := DataW.trod_int Try.underlying2 t0_2
  obtain rfl := one_cell e0_2
  obtain ⟨y0_3, t0_3⟩ := hg0 3 _ rfl c0_3 rfl
  obtain ⟨a0_3, e0_3, _, wa0_3⟩ := DataW.trod_int Try.underlying2 t0_3
  obtain rfl := one_cell e0_3
  obtain ⟨cs1, rfl, hz1⟩ := okWide_struct Try.underlying58 (hval 1 58 v1 rfl rfl)
  obtain ⟨l1⟩ := cs1
  obtain ⟨fu1, hf1⟩ := h1
  obtain ⟨hl1, n1, hg1⟩ := fields_of Try.underlying58 (by kernel_rfl) (by kernel_rfl) hf1
  obtain ⟨c1_0, c1_1, c1_2, c1_3, rfl⟩ := list4 hl1
  obtain ⟨y1_0, t1_0⟩ := hg1 0 _ rfl c1_0 rfl
  obtain ⟨s1_0, e1_0, _, ws1_0⟩ := DataW.trod_string Try.underlying9 t1_0
  obtain rfl := one_cell e1_0
  obtain ⟨y1_1, t1_1⟩ := hg1 1 _ rfl c1_1 rfl
  obtain ⟨a1_1, e1_1, _, wa1_1⟩ := DataW.trod_int Try.underlying2 t1_1
  obtain rfl := one_cell e1_1
  obtain ⟨y1_2, t1_2⟩ := hg1 2 _ rfl c1_2 rfl
  obtain ⟨a1_2, e1_2, _, wa1_2⟩ := DataW.trod_int Try.underlying2 t1_2
  obtain rfl := one_cell e1_2
  obtain ⟨y1_3, t1_3⟩ := hg1 3 _ rfl c1_3 rfl
  obtain ⟨a1_3, e1_3, _, wa1_3⟩ := DataW.trod_int Try.underlying2 t1_3
  obtain rfl := one_cell e1_3
  obtain ⟨a2, rfl, _, _, wa2⟩ := open_int Try.underlying2 (hval 2 2 v2 rfl rfl) h2
  clear hA0 hval0
  refine (walk s0_0 a0_1 a0_2 a0_3 s1_0 a1_1 a1_2 a1_3 a2 W ws0_0 wa0_1 wa0_2 wa0_3 ws1_0 wa1_1 wa1_2 wa1_3 wa2).mono fun e W' ⟨he, bel⟩ => ?_
  subst he
  exact ⟨_, rfl, _, _, _, [], _, [], hW', trodAll_mk1 (shut_bool Try.underlying4 _), (trodAll_cons_mk (Below.trod laidOut (by kernel_rfl) (of_decide_eq_true (by kernel_rfl)) k0 bel lt0) (trodAll_cons_mk (Below.trod laidOut (by kernel_rfl) (of_decide_eq_true (by kernel_rfl)) k1 bel lt1) (trodAll_cons_mk (Below.trod laidOut (by kernel_rfl) (of_decide_eq_true (by kernel_rfl)) k2 bel lt2) trodAll_mk0))), rfl, bel.frame _, fun h => by cases h⟩
theorem proved : Rows.FnExactNextHeatSaid :=
  OpenClaim.holds_of_wide 13 Try.f13 rfl rfl rfl rfl rfl rfl rfl ⟨rfl, rfl, rfl, rfl, rfl⟩ rfl rfl rfl rfl rfl (by kernel_rfl) Try.func13 (by kernel_rfl)
    (of_decide_eq_true (by kernel_rfl)) (by unfold Func.isWrapper; first | (rw [if_pos (by decide +kernel)]; kernel_rfl) | (rw [if_neg (by decide +kernel)]; exact ⟨rfl, rfl⟩))
    (fun os started H enc _ => lifted os started H enc)
end Go.Proofs.Ytlmfdjohaogeoaa.FnExactNextHeat
