/- FnExactBellText: the program's BellText and the reference's give the same of every bell; the library's table of powers of ten reads as its text lays it (tied). -/


import Derived.Test.YtmliceloimdckaaDoorLaid
import Derived.Test.YtmliceloimdckaaDoorBellT
namespace Go.Proofs.YtmliceloimdckaaDoor.FnExactBellText
set_option linter.unusedVariables false
set_option linter.unusedSimpArgs false
open Go.ChangeShapes Go.WideShapes Go.ChangeAt Go.RowKit Go.Deep
open Go.ChangeMaps (open_string shut_string)
set_option maxHeartbeats 4000000 in
theorem walk (s : ByteArray) (no ma fe : Int) (A : Option Addr) (n c : Nat) (ss : Nat → ByteArray) (ms : Nat → Int) (w : World) (hs : s.size ≤ maxLen) (wno : (Lit.int .i64 no).wf = true) (wma : (Lit.int .i64 ma).wf = true) (wfe : (Lit.int .i64 fe).wf = true) (hr : ShareRow w A n ss ms) (hn : n ≤ maxLen) (hss : ∀ i, i < n → (ss i).size ≤ maxLen) (wms : ∀ i, i < n → (Lit.int .i64 (ms i)).wf = true) (hT : HasPow w) :
    Calls Tryd.prog 7 #[.agg #[.string s, .int .i64 no, .int .i64 ma, .int .i64 fe, .slice A n c]] w fun e w' => e = .returned (.bool true) ∧ Below w.heap.size w w' := by
  have HT := Lib.hid hT
  clear hT
  have hB0 := (Below.refl w.heap.size w).alloc (Nat.le_refl _) (.cells #[.string s, .int .i64 no, .int .i64 ma, .int .i64 fe, .slice A n c] 52)
  have hr0 := Lib.hid (hr.below hB0 (Nat.le_refl _))
  have HSS := Lib.hid hss
  clear hr hss wms
  by_cases hbig : (1048576 : Int) < s.size + ((n : Int) + sumS ss n)
  · go_enter Tryd.func7, Tryd.ntmps7
    go_wp2_with (go_at_call 29; refine (szBell_calls _ _ _ _ _ _ _ _ _ _ _ hr0.out hs HSS.out hn (by omega) (by omega)).mono ?_; rw [show szV 1048576 s n ss = -1 by unfold szV; rw [if_pos hbig]]; rintro e w1 ⟨rfl, hb⟩)
    go_ret
    exact ⟨rfl, hB0.trans (hb.mono (by simp))⟩
  · have hn2 : n ≤ 1048576 := by omega
    have hl : 0 ≤ szV 1048576 s n ss := by unfold szV; rw [if_neg hbig]; omega
    generalize hL : szV 1048576 s n ss = L at *
    have HL := Lib.hid hL
    clear hL
    go_enter Tryd.func7, Tryd.ntmps7
    go_wp2_with fail
    go_at_call 29
    refine (szBell_calls _ _ _ _ _ _ _ _ _ _ _ hr0.out hs HSS.out hn (by omega) (by omega)).mono ?_
    rw [HL.out]
    rintro e w1 ⟨rfl, hb⟩
    have B1 := Lib.hid ((Blk.new w 52 #[.string s, .int .i64 no, .int .i64 ma, .int .i64 fe, .slice A n c]).keep hb)
    have r1 := Lib.hid (hr0.out.below hb (Nat.le_refl _))
    have k1 := Lib.hid (hB0.trans (hb.mono (by simp)))
    clear hb hr0 hB0
    have x0 := (B1.out.cell 0).trans rfl
    have x1 := (B1.out.cell 1).trans rfl
    have x2 := (B1.out.cell 2).trans rfl
    have x3 := (B1.out.cell 3).trans rfl
    have x4 := (B1.out.cell 4).trans rfl
    go_wp2_with fail
    go_at_call 31
    refine (toBell_calls _ _ _ _ _ _ _ _ _ _ r1.out hn2).mono ?_
    rintro e w2 ⟨G1, rfl, hb, g1, g2, hc⟩
    have B2 := Lib.hid (B1.out.keep hb)
    have r2 := Lib.hid (r1.out.below hb (Nat.le_refl _))
    have k2 := Lib.hid (k1.out.trans (hb.mono k1.out.size))
    clear hb B1 r1 k1 x0 x1 x2 x3 x4 g1
    go_wp2_with fail
    go_at_call 30
    refine (sBellText_calls _ _ _ _ _ _ _ _ _ _ hs hc HSS.out hn2).mono ?_
    rintro e w3 ⟨rfl, hb⟩
    have B3 := Lib.hid (B2.out.keep hb)
    have r3 := Lib.hid (r2.out.below hb (Nat.le_refl _))
    have k3 := Lib.hid (k2.out.trans (hb.mono k2.out.size))
    clear hb B2 r2 k2 g2 hc
    have x0 := (B3.out.cell 0).trans rfl
    have x1 := (B3.out.cell 1).trans rfl
    have x2 := (B3.out.cell 2).trans rfl
    have x3 := (B3.out.cell 3).trans rfl
    have x4 := (B3.out.cell 4).trans rfl
    go_wp2_with fail
    go_at_call 31
    refine (toBell_calls _ _ _ _ _ _ _ _ _ _ r3.out hn2).mono ?_
    rintro e w4 ⟨G2, rfl, hb, g1, g2, hc⟩
    have B4 := Lib.hid (B3.out.keep hb)
    have r4 := Lib.hid (r3.out.below hb (Nat.le_refl _))
    have k4 := Lib.hid (k3.out.trans (hb.mono k3.out.size))
    have hz4 := B4.out.lt
    clear hb B3 r3 k3 x0 x1 x2 x3 x4 g1
    have hc2 := Lib.hid (hc.below ((Below.refl w4.heap.size w4).alloc (Nat.le_refl _) (.cells #[.string s, .int .i64 no, .int .i64 ma, .int .i64 fe, .slice (some ⟨G2, 0, none⟩) n n] 57)) (Nat.le_refl _))
    clear hc
    go_wp2_with fail
    go_at_call 32
    refine (BellText_calls _ _ _ _ _ _ _ _ _ _ hs hc2.out HSS.out hn2 (HT.out.keep (k4.out.alloc k4.out.size _))).mono ?_
    rintro e w5 ⟨rfl, hb⟩
    have hal := (Below.refl w4.heap.size w4).alloc (Nat.le_refl _) (.cells #[.string s, .int .i64 no, .int .i64 ma, .int .i64 fe, .slice (some ⟨G2, 0, none⟩) n n] 57)
    have X5 := (Blk.new w4 57 #[.string s, .int .i64 no, .int .i64 ma, .int .i64 fe, .slice (some ⟨G2, 0, none⟩) n n]).keep hb
    have B5 := (B4.out.alloc _).keep hb
    have r5 := (r4.out.below hal (Nat.le_refl _)).below hb (Nat.le_refl _)
    have c5 := hc2.out.below hb (Nat.le_refl _)
    have k5 := (k4.out.trans (hal.mono k4.out.size)).trans (hb.mono (k4.out.trans (hal.mono k4.out.size)).size)
    clear hb B4 r4 k4 hal hc2 g2
    go_wp2_with fail
    refine wp_gen (fun W0 hW0 => ?_)
    have s0_ : Below w.heap.size w W0 := by rw [hW0]; exact k5
    have s1_ : Blk W0 w4.heap.size 57 #[.string s, .int .i64 no, .int .i64 ma, .int .i64 fe, .slice (some ⟨G2, 0, none⟩) n n] := by rw [hW0]; exact X5
    have s2_ : Blk W0 w.heap.size 52 #[.string s, .int .i64 no, .int .i64 ma, .int .i64 fe, .slice A n c] := by rw [hW0]; exact B5
    have s3_ : ShareRow W0 A n ss ms := by rw [hW0]; exact r5
    have s4_ : ShareRow W0 (some ⟨G2, 0, none⟩) n ss ms := by rw [hW0]; exact c5
    have s5_ : W0.cell? ⟨w4.heap.size, 0, none⟩ = some (.string s) := (s1_.cell 0).trans rfl
    have s6_ : W0.cell? ⟨w4.heap.size, 1, none⟩ = some (.int .i64 no) := (s1_.cell 1).trans rfl
    have s7_ : W0.cell? ⟨w4.heap.size, 2, none⟩ = some (.int .i64 ma) := (s1_.cell 2).trans rfl
    have s8_ : W0.cell? ⟨w4.heap.size, 3, none⟩ = some (.int .i64 fe) := (s1_.cell 3).trans rfl
    have s9_ : W0.cell? ⟨w4.heap.size, 4, none⟩ = some (.slice (some ⟨G2, 0, none⟩) n n) := (s1_.cell 4).trans rfl
    have s10_ : W0.cell? ⟨w.heap.size, 0, none⟩ = some (.string s) := (s2_.cell 0).trans rfl
    have s11_ : W0.cell? ⟨w.heap.size, 1, none⟩ = some (.int .i64 no) := (s2_.cell 1).trans rfl
    have s12_ : W0.cell? ⟨w.heap.size, 2, none⟩ = some (.int .i64 ma) := (s2_.cell 2).trans rfl
    have s13_ : W0.cell? ⟨w.heap.size, 3, none⟩ = some (.int .i64 fe) := (s2_.cell 3).trans rfl
    have s14_ : W0.cell? ⟨w.heap.size, 4, none⟩ = some (.slice A n c) := (s2_.cell 4).trans rfl
    clear X5 B5 r5 c5 k5
    clear hW0
    refine wp_region_held_drew (S := fun w' => Below w.heap.size w w' ∧ Blk w' w4.heap.size 57 #[.string s, .int .i64 no, .int .i64 ma, .int .i64 fe, .slice (some ⟨G2, 0, none⟩) n n] ∧ Blk w' w.heap.size 52 #[.string s, .int .i64 no, .int .i64 ma, .int .i64 fe, .slice A n c] ∧ ShareRow w' A n ss ms ∧ ShareRow w' (some ⟨G2, 0, none⟩) n ss ms ∧ w'.cell? ⟨w4.heap.size, 0, none⟩ = some (.string s) ∧ w'.cell? ⟨w4.heap.size, 1, none⟩ = some (.int .i64 no) ∧ w'.cell? ⟨w4.heap.size, 2, none⟩ = some (.int .i64 ma) ∧ w'.cell? ⟨w4.heap.size, 3, none⟩ = some (.int .i64 fe) ∧ w'.cell? ⟨w4.heap.size, 4, none⟩ = some (.slice (some ⟨G2, 0, none⟩) n n) ∧ w'.cell? ⟨w.heap.size, 0, none⟩ = some (.string s) ∧ w'.cell? ⟨w.heap.size, 1, none⟩ = some (.int .i64 no) ∧ w'.cell? ⟨w.heap.size, 2, none⟩ = some (.int .i64 ma) ∧ w'.cell? ⟨w.heap.size, 3, none⟩ = some (.int .i64 fe) ∧ w'.cell? ⟨w.heap.size, 4, none⟩ = some (.slice A n c)) (by kernel_rfl) ?_ (fun hHeld => ?_)
    · exact ⟨s0_.drew, s1_, s2_, s3_, s4_, s5_, s6_, s7_, s8_, s9_, s10_, s11_, s12_, s13_, s14_⟩
    clear s0_ s1_ s2_ s3_ s4_ s5_ s6_ s7_ s8_ s9_ s10_ s11_ s12_ s13_ s14_
    refine take_yes (i := 0) (d := 22) (v := ?_) _ rfl rfl (by kernel_rfl) (by kernel_rfl) (by kernel_rfl) (fun _ _ _ _ h => h) (by rfl) ?_ (by assumption) ?_
    rotate_left 1
    · ((intro w hSw; (try dsimp only at hSw); go_simp) <;> (try with_reducible rfl))
    (try simp only [Act.put, List.setIfInBounds_toArray, List.set_cons_zero, List.set_cons_succ])
    refine take_yes (i := 1) (d := 23) (v := ?_) _ rfl rfl (by kernel_rfl) (by kernel_rfl) (by kernel_rfl) (fun _ _ _ _ h => h) (by rfl) ?_ (by assumption) ?_
    rotate_left 1
    · ((intro w hSw; (try dsimp only at hSw); go_simp) <;> (try with_reducible rfl))
    (try simp only [Act.put, List.setIfInBounds_toArray, List.set_cons_zero, List.set_cons_succ])
    (refine wpAnyH_ready (rs := [2]) (by kernel_rfl) (by simp) ?_; refine AllReadyH.cons rfl (fun K hK => ?_) AllReadyH.nil; go_simp; go_at_call 31; refine (toBell_calls _ _ _ _ _ _ _ _ _ _ hHeld.2.2.2.1 hn2).mono ?_; rintro e wd ⟨G3, rfl, hb, g1, g2, hnew⟩; refine hK.out _ _ (by obtain ⟨x0_, x1_, x2_, x3_, x4_, x5_, x6_, x7_, x8_, x9_, x10_, x11_, x12_, x13_, x14_⟩ := hHeld; exact ⟨x0_.trans (hb.mono x0_.size), x1_.keep hb, x2_.keep hb, x3_.keep hb, x4_.keep hb, cell_keep hb x5_, cell_keep hb x6_, cell_keep hb x7_, cell_keep hb x8_, cell_keep hb x9_, cell_keep hb x10_, cell_keep hb x11_, cell_keep hb x12_, cell_keep hb x13_, cell_keep hb x14_⟩) (fun hHeld2 => ?_); clear hK K hHeld hb; have hHeld := hHeld2; clear hHeld2; (try simp only [Act.put, List.setIfInBounds_toArray, List.set_cons_zero, List.set_cons_succ]))
    (refine wpAnyH_ready (rs := [3]) (by kernel_rfl) (by simp) ?_; refine AllReadyH.cons rfl (fun K hK => ?_) AllReadyH.nil; go_simp; go_at_call 33; refine (eqBell_calls _ _ _ _ _ _ _ _ _ _ _ _ hHeld.2.2.2.2.1 hnew hn2).mono ?_; rintro e wd ⟨rfl, hb⟩; refine hK.out _ _ (by obtain ⟨x0_, x1_, x2_, x3_, x4_, x5_, x6_, x7_, x8_, x9_, x10_, x11_, x12_, x13_, x14_⟩ := hHeld; exact ⟨x0_.trans (hb.mono x0_.size), x1_.keep hb, x2_.keep hb, x3_.keep hb, x4_.keep hb, cell_keep hb x5_, cell_keep hb x6_, cell_keep hb x7_, cell_keep hb x8_, cell_keep hb x9_, cell_keep hb x10_, cell_keep hb x11_, cell_keep hb x12_, cell_keep hb x13_, cell_keep hb x14_⟩) (fun hHeld2 => ?_); clear hK K hHeld hb; have hHeld := hHeld2; clear hHeld2; (try simp only [Act.put, List.setIfInBounds_toArray, List.set_cons_zero, List.set_cons_succ]))
    refine take_yes (i := 4) (d := 26) (v := ?_) _ rfl rfl (by kernel_rfl) (by kernel_rfl) (by kernel_rfl) (fun _ _ _ _ h => h) (by rfl) ?_ (by assumption) ?_
    rotate_left 1
    · ((intro w hSw; (try dsimp only at hSw); go_simp) <;> (try with_reducible rfl))
    (try simp only [Act.put, List.setIfInBounds_toArray, List.set_cons_zero, List.set_cons_succ])
    refine wpAnyH_done (by kernel_rfl) ?_ _
    obtain ⟨z0, z1, z2, z3, z4, z5, z6, z7, z8, z9, z10, z11, z12, z13, z14⟩ := hHeld
    go_wp2
    go_ret
    exact ⟨rfl, z0⟩
theorem own : ownKnob Tryd.prog.godebug = none := by kernel_rfl
theorem laidOut : laidOutB Tryd.prog = true := by kernel_rfl
theorem door_met (os : Os) (args : Array Value) : laidMetH Tryd.prog Rows.fnExactBellTextRow.laid ((World.doorLaid Tryd.prog 72 os).forCall (fun _ _ => 0) ⟨#[], args, []⟩).memory :=
  laidMetH_of_parts3 (fuel := 8) (laidMet_of_run' 8 (by kernel_rfl) (by kernel_rfl)) (by kernel_rfl) (by kernel_rfl)
set_option maxRecDepth 100000 in
theorem lifted (os : Os) (started : os.Started) (H : Type) (enc : TypeId × Value → H) :
    ReturnsInHanded {} Tryd.checked os 7 .any (fun w args => (Rows.fnExactBellTextSpec.pre enc Tryd.prog Tryd.f7 [] false w args ∧ laidMetH Tryd.prog Rows.fnExactBellTextRow.laid w) ∧ sizedMet enc Tryd.prog Tryd.f7 (OpenSpec.ofChange Rows.fnExactBellTextSpec) false w args)
      (Rows.fnExactBellTextSpec.post enc Tryd.prog Tryd.f7 false true false false) := by
  refine returnsInHanded_of_change_and (C := Tryd.checked) (X := fun w _ => laidMetH Tryd.prog Rows.fnExactBellTextRow.laid w) (fun _ _ _ hh h => h.of_heap hh) own started (by kernel_rfl) Tryd.func7
    (ChangeSpec.witness_shaped (enc := enc) (C := Tryd.checked) (os := os) (X := fun w _ => laidMetH Tryd.prog Rows.fnExactBellTextRow.laid w) false (World.doorLaid Tryd.prog 72 os) #[.agg #[.string ⟨#[]⟩, .int .i64 0, .int .i64 0, .int .i64 0, .slice none 0 0]] 8 rfl (World.shaped_of_RefB (by kernel_rfl) (by kernel_rfl)) (by kernel_rfl) (by kernel_rfl) (by kernel_rfl) (door_met os _)) ?_
  intro W base args ds gs before hval0 hW _ _ hL _
  have hval : ∀ (j : Nat) t v, Tryd.f7.params[j]? = some t → args[j]? = some v → Value.okWide Tryd.prog W .any base t v := hval0
  have hW' := hW
  obtain ⟨p, q, hA0, hV, rfl, hfz, hnd⟩ := hW
  have hA : DataW.TrodAll enc Tryd.prog W 0 (fun _ => true) true Tryd.f7.params.toList args.toList ds p := hA0
  rw [Tryd.params7] at hA hval
  obtain ⟨v0, vs0, d0, ds0, p0, q0, hargs, rfl, rfl, h0, r0⟩ := trodAll_cons hA
  obtain ⟨rfl, rfl, rfl⟩ := trodAll_nil r0
  obtain rfl : args = #[v0] := by cases args; simp_all
  obtain ⟨rfl, rfl⟩ := trodVars_none hV
  have k0 := h0
  have lt0 : ∀ x ∈ p0, x.block < W.heap.size := by obtain ⟨m, hm⟩ := k0; exact DataW.trod_lt m _ _ _ hm
  obtain ⟨cs0, rfl, hz0⟩ := okWide_struct Tryd.underlying52 (hval 0 52 v0 rfl rfl)
  obtain ⟨l0⟩ := cs0
  obtain ⟨fu0, hf0⟩ := h0
  obtain ⟨hl0, n0, hg0⟩ := fields_of Tryd.underlying52 (by kernel_rfl) (by kernel_rfl) hf0
  obtain ⟨c0_0, c0_1, c0_2, c0_3, c0_4, rfl⟩ := list5 hl0
  obtain ⟨y0_0, t0_0⟩ := hg0 0 _ rfl c0_0 rfl
  obtain ⟨s0_0, e0_0, _, ws0_0⟩ := DataW.trod_string Tryd.underlying9 t0_0
  obtain rfl := one_cell e0_0
  obtain ⟨y0_1, t0_1⟩ := hg0 1 _ rfl c0_1 rfl
  obtain ⟨a0_1, e0_1, _, wa0_1⟩ := DataW.trod_int Tryd.underlying2 t0_1
  obtain rfl := one_cell e0_1
  obtain ⟨y0_2, t0_2⟩ := hg0 2 _ rfl c0_2 rfl
  obtain ⟨a0_2, e0_2, _, wa0_2⟩ := DataW.trod_int Tryd.underlying2 t0_2
  obtain rfl := one_cell e0_2
  obtain ⟨y0_3, t0_3⟩ := hg0 3 _ rfl c0_3 rfl
  obtain ⟨a0_3, e0_3, _, wa0_3⟩ := DataW.trod_int Tryd.underlying2 t0_3
  obtain rfl := one_cell e0_3
  obtain ⟨y0_4, t0_4⟩ := hg0 4 _ rfl c0_4 rfl
  obtain ⟨A0_4, n0_4, m0_4, rfl⟩ := slice_cell Tryd.underlying50 t0_4
  obtain ⟨q0_4_0, q0_4_1, hr0_4, hn0_4, r0_4_0, r0_4_1⟩ := openShareS t0_4
  clear hA0 hval0
  refine (walk s0_0 a0_1 a0_2 a0_3 A0_4 n0_4 m0_4 q0_4_0 q0_4_1 W ws0_0 wa0_1 wa0_2 wa0_3 hr0_4 hn0_4 r0_4_0 r0_4_1 (hasPow_of hL)).mono fun e W' ⟨he, bel⟩ => ?_
  subst he
  exact ⟨_, rfl, _, _, _, [], _, [], hW', trodAll_mk1 (shut_bool Tryd.underlying4 _), (trodAll_cons_mk (Below.trod laidOut (by kernel_rfl) (of_decide_eq_true (by kernel_rfl)) k0 bel lt0) trodAll_mk0), rfl, bel.frame _, fun h => by cases h⟩
set_option maxHeartbeats 20000000 in
theorem closed : joinedFacts Tryd.pinned.checked.prog 7 Tryd.f7 Rows.fnExactBellTextSpec Rows.fnExactBellTextRow = true := by
  unfold joinedFacts
  simp only [Bool.and_eq_true]
  and_intros
  all_goals (as_aux_lemma => kernel_rfl)
theorem said : Rows.FnExactBellTextSaid :=
  OpenClaim.holds_of_wide 7 Tryd.f7 rfl rfl rfl rfl rfl rfl rfl ⟨rfl, rfl, rfl, rfl, rfl⟩ rfl rfl rfl rfl rfl (by kernel_rfl) Tryd.func7 closed
    (of_decide_eq_true (by kernel_rfl)) (by unfold Func.isWrapper; first | (rw [if_pos (by decide +kernel)]; kernel_rfl) | (rw [if_neg (by decide +kernel)]; exact ⟨rfl, rfl⟩))
    (fun os started H enc _ => lifted os started H enc)
theorem plain (f : FuncId) (fn : Func) (hf : Tryd.pinned.checked.prog.funcNamed Tryd.f7.name = some f) (hfn : Tryd.pinned.checked.prog.funcs[f]? = some fn) :
    true = Tryd.pinned.checked.prog.looks [] ∧ ∀ (j : Nat) t, fn.params[j]? = some t → Tryd.pinned.checked.prog.wantsStandIn t = false := by
  obtain rfl : f = 7 := Option.some.inj ((show Tryd.prog.funcNamed Tryd.f7.name = some 7 by kernel_rfl).symm.trans hf) |>.symm
  obtain rfl : fn = Tryd.f7 := (Option.some.inj (Tryd.func7.symm.trans hfn)).symm
  refine ⟨by kernel_rfl, fun j t ht => ?_⟩
  rw [Tryd.params7] at ht
  have hm : t ∈ [52] := by simpa using Array.mem_of_getElem? ht
  have hall : ([52].all fun u => !Tryd.prog.wantsStandIn u) = true := by kernel_rfl
  exact (show Tryd.prog.wantsStandIn t = false by simpa using List.all_eq_true.1 hall t hm)
theorem proved : Rows.FnExactBellTextCardSaid :=
  Claim7.holds_tied_plain_at .later [] _ _ _ _ said (fun _ h => by cases h) (by kernel_rfl) (fun _ h => by cases h) fnExactBellText_row_tie rfl ⟨rfl, rfl⟩ (by kernel_rfl) rfl plain (by kernel_rfl)
end Go.Proofs.YtmliceloimdckaaDoor.FnExactBellText
