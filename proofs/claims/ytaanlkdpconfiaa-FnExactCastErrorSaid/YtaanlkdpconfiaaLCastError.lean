/- FnExactCastError: the program's CastError and the reference's give the same of every profile and number. No further condition. -/



import Derived.Test.YtaanlkdpconfiaaRows
import Derived.Test.YtaanlkdpconfiaaFrame
import Derived.Test.YtaanlkdpconfiaaErr
namespace Go.Proofs.Ytaanlkdpconfiaa.FnExactCastError
set_option linter.unusedVariables false
set_option linter.unusedSimpArgs false
open Go.ChangeShapes Go.WideShapes Go.ChangeAt Go.RowKit Go.Deep
open Go.ChangeMaps (open_string shut_string)
theorem slice_cell {H : Type} {enc : TypeId × Value → H} {P : Program} {w : World} {base : Nat} {spare : Nat → Bool} {held : Bool} {t e : TypeId} {fuel : Nat} {v : Value} {x : DataW H × List MemPlace} (ht : P.underlying t = some (.slice e)) (h : DataW.trod enc P w base spare held fuel t [v] = some x) :
    ∃ A n c, v = .slice A n c := by
  rcases open_slice ht h with ⟨hcs, -⟩ | ⟨a, len, cap, m, fu, D, Pl, hcs, -⟩
  · exact ⟨_, _, _, one_cell hcs⟩
  · exact ⟨_, _, _, one_cell hcs⟩
set_option maxHeartbeats 8000000 in
theorem walk (s : ByteArray) (A : Option Addr) (n c : Nat) (p q h : Nat → Int) (x : Int) (w : World) (hs : s.size ≤ maxLen) (hr : RingRow w A n p q h) (hn : n ≤ maxLen) (_ : ∀ i, i < n → (Lit.int .i64 (p i)).wf = true) (_ : ∀ i, i < n → (Lit.int .i64 (q i)).wf = true) (_ : ∀ i, i < n → (Lit.int .i64 (h i)).wf = true) (_ : (Lit.int .i64 x).wf = true) :
    Calls Try.prog 10 #[.agg #[.string s, .slice A n c], .int .i64 x] w fun e w' => e = .returned (.bool true) ∧ Below w.heap.size w w' := by
  have hB0 := (Below.refl w.heap.size w).alloc (Nat.le_refl _) (.cells #[.string s, .slice A n c] 80)
  have HR := Lib.hid hr
  clear hr
  by_cases hbig : (1048576 : Int) < s.size + (n : Int)
  · go_enter Try.func10, Try.ntmps10
    go_wp2_with (go_at_call 53; refine (szProfile_calls s A n c p q h _ _ hs hn (by omega) (by omega)).mono ?_; rw [show szP 1048576 s n = -1 by unfold szP; rw [if_pos hbig]]; rintro e w1 ⟨rfl, hb⟩)
    go_ret
    exact ⟨rfl, hB0.trans (hb.mono (by simp))⟩
  · have hn2 : n ≤ 1048576 := by omega
    have hl : ¬ szP 1048576 s n < 0 := by unfold szP; rw [if_neg hbig]; omega
    generalize hL : szP 1048576 s n = L at *
    have HL := Lib.hid hL
    clear hL
    go_enter Try.func10, Try.ntmps10
    go_wp2_with fail
    go_at_call 53
    refine (szProfile_calls s A n c p q h _ _ hs hn (by omega) (by omega)).mono ?_
    rw [HL.out]
    rintro e w1 ⟨rfl, hb⟩
    have B1 := Lib.hid ((Blk.new w 80 #[.string s, .slice A n c]).keep hb)
    have k1 := Lib.hid (hB0.trans (hb.mono (by simp)))
    have sz1 : w.heap.size < w1.heap.size := B1.out.lt
    clear hb hB0
    have cB0 := (B1.out.cell 0).trans rfl; have cB1 := (B1.out.cell 1).trans rfl; have cB0a := cell_al cB0; have cB1a := cell_al cB1
    go_wp2_with fail
    go_at_call 55
    refine (toProfile_calls s A n c p q h _ (HR.out.below k1.out (Nat.le_refl _)) hn2).mono ?_
    rintro e w2 ⟨Gt, rfl, hb, -, -, hc⟩
    have c1 := Lib.hid hc.row
    have sz2 := hb.size
    replace k1 := Lib.hid (k1.out.trans (hb.mono k1.out.size)); replace B1 := Lib.hid (B1.out.keep hb); (try replace W1 := Lib.hid (W1.out.keep hb)); (try replace X1 := Lib.hid (X1.out.keep hb)); (try replace G1 := Lib.hid (G1.out.keep hb)); (try replace gw1 := Lib.hid (gw1.out.keep hb)); (try replace gx1 := Lib.hid (gx1.out.keep hb)); (try replace gg1 := Lib.hid (gg1.out.keep hb))
    clear cB0 cB1 cB0a cB1a
    clear hb hc
    go_wp2_with fail
    go_at_call 62
    refine (sCastError_calls s _ n _ p q h x _ hs c1.out hn2).mono ?_
    rintro e w3 ⟨rfl, hb⟩
    have sz3 := hb.size
    replace k1 := Lib.hid (k1.out.trans (hb.mono k1.out.size)); replace B1 := Lib.hid (B1.out.keep hb); (try replace W1 := Lib.hid (W1.out.keep hb)); (try replace X1 := Lib.hid (X1.out.keep hb)); (try replace G1 := Lib.hid (G1.out.keep hb)); (try replace gw1 := Lib.hid (gw1.out.keep hb)); (try replace gx1 := Lib.hid (gx1.out.keep hb)); (try replace gg1 := Lib.hid (gg1.out.keep hb))
    clear hb c1
    have cB0 := (B1.out.cell 0).trans rfl; have cB1 := (B1.out.cell 1).trans rfl; have cB0a := cell_al cB0; have cB1a := cell_al cB1
    go_wp2_with fail
    go_at_call 55
    refine (toProfile_calls s A n c p q h _ (HR.out.below k1.out (Nat.le_refl _)) hn2).mono ?_
    rintro e w4 ⟨Gx, rfl, hb, hx1, hx2, hc⟩
    replace k1 := Lib.hid (k1.out.trans (hb.mono k1.out.size)); replace B1 := Lib.hid (B1.out.keep hb); (try replace W1 := Lib.hid (W1.out.keep hb)); (try replace X1 := Lib.hid (X1.out.keep hb)); (try replace G1 := Lib.hid (G1.out.keep hb)); (try replace gw1 := Lib.hid (gw1.out.keep hb)); (try replace gx1 := Lib.hid (gx1.out.keep hb)); (try replace gg1 := Lib.hid (gg1.out.keep hb))
    clear cB0 cB1 cB0a cB1a
    have gx1 := Lib.hid hc
    clear hb hc
    go_wp2_with fail
    go_at_call 63
    have hal := (Below.refl w4.heap.size w4).alloc (Nat.le_refl _) (.cells #[.string s, .slice (some ⟨Gx, 0, none⟩) n n] 84)
    refine (CastError_calls s _ n _ p q h x _ hs (gx1.out.keep hal).row hn2).mono ?_
    rintro e w5 ⟨rfl, hb0⟩
    have hb := hal.trans (hb0.mono hal.size)
    replace k1 := Lib.hid (k1.out.trans (hb.mono k1.out.size)); replace B1 := Lib.hid (B1.out.keep hb); (try replace W1 := Lib.hid (W1.out.keep hb)); (try replace X1 := Lib.hid (X1.out.keep hb)); (try replace G1 := Lib.hid (G1.out.keep hb)); (try replace gw1 := Lib.hid (gw1.out.keep hb)); (try replace gx1 := Lib.hid (gx1.out.keep hb)); (try replace gg1 := Lib.hid (gg1.out.keep hb))
    have X1 := Lib.hid ((Blk.new w4 84 #[.string s, .slice (some ⟨Gx, 0, none⟩) n n]).keep hb0)
    clear hb hb0 hal
    go_wp2_with fail
    refine wp_gen (fun W0 hW0 => ?_)
    have s0_ : Below w.heap.size w W0 := by rw [hW0]; exact k1.out
    have s1_ : Blk W0 w4.heap.size 84 #[.string s, .slice (some ⟨Gx, 0, none⟩) n n] := by rw [hW0]; exact X1.out
    have s2_ : Blk W0 w.heap.size 80 #[.string s, .slice A n c] := by rw [hW0]; exact B1.out
    have s3_ : RingOwn W0 (some ⟨Gx, 0, none⟩) n p q h Gx := by rw [hW0]; exact gx1.out
    have s4_ : W0.cell? ⟨w4.heap.size, 0, none⟩ = some (.string s) := (s1_.cell 0).trans rfl
    have s5_ : W0.cell? ⟨w4.heap.size, 1, none⟩ = some (.slice (some ⟨Gx, 0, none⟩) n n) := (s1_.cell 1).trans rfl
    have s6_ : W0.cell? ⟨w.heap.size, 0, none⟩ = some (.string s) := (s2_.cell 0).trans rfl
    have s7_ : W0.cell? ⟨w.heap.size, 1, none⟩ = some (.slice A n c) := (s2_.cell 1).trans rfl
    clear k1 X1 B1 gx1
    clear hW0
    refine wp_region_held_drew (S := fun w' => Below w.heap.size w w' ∧ Blk w' w4.heap.size 84 #[.string s, .slice (some ⟨Gx, 0, none⟩) n n] ∧ Blk w' w.heap.size 80 #[.string s, .slice A n c] ∧ RingOwn w' (some ⟨Gx, 0, none⟩) n p q h Gx ∧ w'.cell? ⟨w4.heap.size, 0, none⟩ = some (.string s) ∧ w'.cell? ⟨w4.heap.size, 1, none⟩ = some (.slice (some ⟨Gx, 0, none⟩) n n) ∧ w'.cell? ⟨w.heap.size, 0, none⟩ = some (.string s) ∧ w'.cell? ⟨w.heap.size, 1, none⟩ = some (.slice A n c)) (by kernel_rfl) ?_ (fun hHeld => ?_)
    · exact ⟨s0_.drew, s1_, s2_, s3_, s4_, s5_, s6_, s7_⟩
    clear s0_ s1_ s2_ s3_ s4_ s5_ s6_ s7_
    refine take_yes (i := 0) (d := 39) (v := ?_) _ rfl rfl (by kernel_rfl) (by kernel_rfl) (by kernel_rfl) (fun _ _ _ _ h => h) (by rfl) ?_ (by assumption) ?_
    rotate_left 1
    · ((intro w hSw; (try dsimp only at hSw); go_simp) <;> (try with_reducible rfl))
    (try simp only [Act.put, List.setIfInBounds_toArray, List.set_cons_zero, List.set_cons_succ])
    refine take_yes (i := 1) (d := 40) (v := ?_) _ rfl rfl (by kernel_rfl) (by kernel_rfl) (by kernel_rfl) (fun _ _ _ _ h => h) (by rfl) ?_ (by assumption) ?_
    rotate_left 1
    · ((intro w hSw; (try dsimp only at hSw); go_simp) <;> (try with_reducible rfl))
    (try simp only [Act.put, List.setIfInBounds_toArray, List.set_cons_zero, List.set_cons_succ])
    (refine wpAnyH_ready (rs := [2]) (by kernel_rfl) (by simp) ?_; refine AllReadyH.cons rfl (fun K hK => ?_) AllReadyH.nil; go_simp; go_at_call 55; refine (toProfile_calls s A n c p q h _ (HR.out.below (And.left hHeld) (Nat.le_refl _)) hn2).mono ?_; rintro e wd ⟨G3, rfl, hb, g1, g2, hnew⟩; refine hK.out _ _ (by obtain ⟨x0_, x1_, x2_, x3_, x4_, x5_, x6_, x7_⟩ := hHeld; exact ⟨x0_.trans (hb.mono x0_.size), x1_.keep hb, x2_.keep hb, x3_.keep hb, cell_keep hb x4_, cell_keep hb x5_, cell_keep hb x6_, cell_keep hb x7_⟩) (fun hHeld2 => ?_); clear hK K hHeld hb; have hHeld := hHeld2; clear hHeld2; (try simp only [Act.put, List.setIfInBounds_toArray, List.set_cons_zero, List.set_cons_succ]))
    (refine wpAnyH_ready (rs := [3]) (by kernel_rfl) (by simp) ?_; refine AllReadyH.cons rfl (fun K hK => ?_) AllReadyH.nil; go_simp; go_at_call 57; refine (eqProfile_calls s _ _ n _ _ p q h _ hHeld.2.2.2.1.row hnew.row hn2).mono ?_; rintro e wd ⟨rfl, hb⟩; refine hK.out _ _ (by obtain ⟨x0_, x1_, x2_, x3_, x4_, x5_, x6_, x7_⟩ := hHeld; exact ⟨x0_.trans (hb.mono x0_.size), x1_.keep hb, x2_.keep hb, x3_.keep hb, cell_keep hb x4_, cell_keep hb x5_, cell_keep hb x6_, cell_keep hb x7_⟩) (fun hHeld2 => ?_); clear hK K hHeld hb; have hHeld := hHeld2; clear hHeld2; (try simp only [Act.put, List.setIfInBounds_toArray, List.set_cons_zero, List.set_cons_succ]))
    refine take_yes (i := 4) (d := 43) (v := ?_) _ rfl rfl (by kernel_rfl) (by kernel_rfl) (by kernel_rfl) (fun _ _ _ _ h => h) (by rfl) ?_ (by assumption) ?_
    rotate_left 1
    · ((intro w hSw; (try dsimp only at hSw); go_simp) <;> (try with_reducible rfl))
    (try simp only [Act.put, List.setIfInBounds_toArray, List.set_cons_zero, List.set_cons_succ])
    refine wpAnyH_done (by kernel_rfl) ?_ _
    obtain ⟨z0, z1, z2, z3, z4, z5, z6, z7⟩ := hHeld
    go_wp2
    go_ret
    exact ⟨rfl, z0⟩
theorem own : ownKnob Try.prog.godebug = none := by kernel_rfl
theorem laidOut : laidOutB Try.prog = true := by kernel_rfl
set_option maxRecDepth 100000 in
theorem lifted (os : Os) (started : os.Started) (H : Type) (enc : TypeId × Value → H) :
    ReturnsInHanded {} Try.checked os 10 .any (Rows.fnExactCastErrorSpec.pre6 enc Try.prog Try.f10 Rows.fnExactCastErrorRow.domain false) (Rows.fnExactCastErrorSpec.post enc Try.prog Try.f10 false true false false) := by
  refine returnsInHanded_of_change (C := Try.checked) own started (by kernel_rfl) Try.func10
    (ChangeSpec.witness6 (enc := enc) (C := Try.checked) false ⟨#[], #[.agg #[.string ⟨#[]⟩, .slice none 0 0], .int .i64 0], []⟩ 8 (by kernel_rfl) (by kernel_rfl) (by kernel_rfl) (by kernel_rfl)) ?_
  intro W base args ds gs before hval0 hW hcnd _
  have hval : ∀ (j : Nat) t v, Try.f10.params[j]? = some t → args[j]? = some v → Value.okWide Try.prog W .any base t v := hval0
  have hW' := hW
  obtain ⟨p, q, hA0, hV, rfl, hfz, hnd⟩ := hW
  have hA : DataW.TrodAll enc Try.prog W 0 (fun _ => true) true Try.f10.params.toList args.toList ds p := hA0
  rw [Try.params10] at hA hval
  obtain ⟨v0, vs0, d0, ds0, p0, q0, hargs, rfl, rfl, h0, r0⟩ := trodAll_cons hA
  obtain ⟨v1, vs1, d1, ds1, p1, q1, rfl, rfl, rfl, h1, r1⟩ := trodAll_cons r0
  obtain ⟨rfl, rfl, rfl⟩ := trodAll_nil r1
  obtain rfl : args = #[v0, v1] := by cases args; simp_all
  obtain ⟨rfl, rfl⟩ := trodVars_none hV
  have k0 := h0
  have lt0 : ∀ x ∈ p0, x.block < W.heap.size := by obtain ⟨m, hm⟩ := k0; exact DataW.trod_lt m _ _ _ hm
  have k1 := h1
  have lt1 : ∀ x ∈ p1, x.block < W.heap.size := by obtain ⟨m, hm⟩ := k1; exact DataW.trod_lt m _ _ _ hm
  obtain ⟨cs0, rfl, hz0⟩ := okWide_struct Try.underlying80 (hval 0 80 v0 rfl rfl)
  obtain ⟨l0⟩ := cs0
  obtain ⟨fu0, hf0⟩ := h0
  obtain ⟨hl0, n0, hg0⟩ := fields_of Try.underlying80 (by kernel_rfl) (by kernel_rfl) hf0
  obtain ⟨c0_0, c0_1, rfl⟩ := list2 hl0
  obtain ⟨y0_0, t0_0⟩ := hg0 0 _ rfl c0_0 rfl
  obtain ⟨s0_0, e0_0, _, ws0_0⟩ := DataW.trod_string Try.underlying9 t0_0
  obtain rfl := one_cell e0_0
  obtain ⟨y0_1, t0_1⟩ := hg0 1 _ rfl c0_1 rfl
  obtain ⟨A0_1, n0_1, m0_1, rfl⟩ := slice_cell Try.underlying78 t0_1
  obtain ⟨q0_1_0, q0_1_1, q0_1_2, hr0_1, hn0_1, r0_1_0, r0_1_1, r0_1_2⟩ := openRingS t0_1
  obtain ⟨a1, rfl, _, _, wa1⟩ := open_int Try.underlying2 (hval 1 2 v1 rfl rfl) h1
  clear hA0 hval0
  refine (walk s0_0 A0_1 n0_1 m0_1 q0_1_0 q0_1_1 q0_1_2 a1 W ws0_0 hr0_1 hn0_1 r0_1_0 r0_1_1 r0_1_2 wa1).mono fun e W' ⟨he, bel⟩ => ?_
  subst he
  exact ⟨_, rfl, _, _, _, [], _, [], hW', trodAll_mk1 (shut_bool Try.underlying4 _), (trodAll_cons_mk (Below.trod laidOut (by kernel_rfl) (of_decide_eq_true (by kernel_rfl)) k0 bel lt0) (trodAll_cons_mk (Below.trod laidOut (by kernel_rfl) (of_decide_eq_true (by kernel_rfl)) k1 bel lt1) trodAll_mk0)), rfl, bel.frame _, fun h => by cases h⟩
set_option maxHeartbeats 20000000 in
theorem closed : joinedFacts Try.pinned.checked.prog 10 Try.f10 Rows.fnExactCastErrorSpec Rows.fnExactCastErrorRow = true := by
  unfold joinedFacts
  simp only [Bool.and_eq_true]
  and_intros
  all_goals (as_aux_lemma => kernel_rfl)
theorem proved : Rows.FnExactCastErrorSaid :=
  OpenClaim.holds_of_wide 10 Try.f10 rfl rfl rfl rfl rfl rfl rfl ⟨rfl, rfl, rfl, rfl, rfl⟩ rfl rfl rfl rfl rfl (by kernel_rfl) Try.func10 closed
    (of_decide_eq_true (by kernel_rfl)) (by unfold Func.isWrapper; first | (rw [if_pos (by decide +kernel)]; kernel_rfl) | (rw [if_neg (by decide +kernel)]; exact ⟨rfl, rfl⟩))
    (fun os started H enc _ => lifted os started H enc)
end Go.Proofs.Ytaanlkdpconfiaa.FnExactCastError
