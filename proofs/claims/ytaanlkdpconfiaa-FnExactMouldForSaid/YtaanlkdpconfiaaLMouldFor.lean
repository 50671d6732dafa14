/- FnExactMouldFor: the program's MouldFor and the reference's give the same of every profile and number. No further condition. -/



import Derived.Test.YtaanlkdpconfiaaRows
import Derived.Test.YtaanlkdpconfiaaFrame
import Derived.Test.YtaanlkdpconfiaaMouldS
namespace Go.Proofs.Ytaanlkdpconfiaa.FnExactMouldFor
set_option linter.unusedVariables false
set_option linter.unusedSimpArgs false
open Go.ChangeShapes Go.WideShapes Go.ChangeAt Go.RowKit Go.Deep
open Go.ChangeMaps (open_string shut_string)
theorem slice_cell {H : Type} {enc : TypeId × Value → H} {P : Program} {w : World} {base : Nat} {spare : Nat → Bool} {held : Bool} {t e : TypeId} {fuel : Nat} {v : Value} {x : DataW H × List MemPlace} (ht : P.underlying t = some (.slice e)) (h : DataW.trod enc P w base spare held fuel t [v] = some x) :
    ∃ A n c, v = .slice A n c := by
  rcases open_slice ht h with ⟨hcs, -⟩ | ⟨a, len, cap, m, fu, D, Pl, hcs, -⟩
  · exact ⟨_, _, _, one_cell hcs⟩
  · exact ⟨_, _, _, one_cell hcs⟩
theorem own_lt {w : World} {A : Option Addr} {n G : Nat} {p q h : Nat → Int} (ho : RingOwn w A n p q h G) (hn : 0 < n) : G < w.heap.size := by
  obtain ⟨-, arr, hb, -⟩ := ho hn
  exact hb.lt
theorem own_grown {w w' : World} {A : Option Addr} {n G H : Nat} {p q h : Nat → Int} (ho : RingOwn w A n p q h G) (hg : w.grownBy w' (some H)) (hne : 0 < n → G ≠ H) : RingOwn w' A n p q h G := fun hn => ho.grown hg (hne hn) hn
theorem both (s : ByteArray) (n : Nat) (p q h : Nat → Int) (x : Int) (hs : s.size ≤ maxLen) (hn : n ≤ 1048576) : ∃ (sw : ByteArray) (nw : Nat) (a b d : Nat → Int) (code : Int), nw ≤ 1048576 ∧
    (∀ W A c, RingRow W A n p q h → Calls Try.prog 60 #[.agg #[.string s, .slice A n c], .int .i64 x] W fun e w' => ProfOut W sw nw a b d code e w') ∧
    (∀ W A c, RingRow W A n p q h → Calls Try.prog 61 #[.agg #[.string s, .slice A n c], .int .i64 x] W fun e w' => ProfOut W sw nw a b d code e w') := by
  refine ⟨_, _, _, _, _, _, ?_, fun W A c hr => sMouldFor_calls s A n c p q h x W hs hr hn, fun W A c hr => MouldFor_calls s A n c p q h x W hs hr hn⟩
  cases hadB s n p q h (1000 + x) 1000 x
  · exact Nat.zero_le _
  · exact hn
set_option maxHeartbeats 8000000 in
theorem walk (s : ByteArray) (A : Option Addr) (n c : Nat) (p q h : Nat → Int) (x : Int) (w : World) (hs : s.size ≤ maxLen) (hr : RingRow w A n p q h) (hn : n ≤ maxLen) (_ : ∀ i, i < n → (Lit.int .i64 (p i)).wf = true) (_ : ∀ i, i < n → (Lit.int .i64 (q i)).wf = true) (_ : ∀ i, i < n → (Lit.int .i64 (h i)).wf = true) (_ : (Lit.int .i64 x).wf = true) :
    Calls Try.prog 9 #[.agg #[.string s, .slice A n c], .int .i64 x] w fun e w' => e = .returned (.bool true) ∧ Below w.heap.size w w' := by
  have hB0 := (Below.refl w.heap.size w).alloc (Nat.le_refl _) (.cells #[.string s, .slice A n c] 80)
  have HR := Lib.hid hr
  clear hr
  by_cases hbig : (1048576 : Int) < s.size + (n : Int)
  · go_enter Try.func9, Try.ntmps9
    go_wp2_with (go_at_call 53; refine (szProfile_calls s A n c p q h _ _ hs hn (by omega) (by omega)).mono ?_; rw [show szP 1048576 s n = -1 by unfold szP; rw [if_pos hbig]]; rintro e w1 ⟨rfl, hb⟩)
    go_ret
    exact ⟨rfl, hB0.trans (hb.mono (by simp))⟩
  · have hn2 : n ≤ 1048576 := by omega
    obtain ⟨sw, nw, a, b, d, code, hnw, hcs, hci⟩ := both s n p q h x hs hn2
    have CS := Lib.hid hcs
    have CI := Lib.hid hci
    clear hcs hci
    have hl : ¬ szP 1048576 s n < 0 := by unfold szP; rw [if_neg hbig]; omega
    generalize hL : szP 1048576 s n = L at *
    have HL := Lib.hid hL
    clear hL
    go_enter Try.func9, Try.ntmps9
    go_wp2_with fail
    go_at_call 53
    refine (szProfile_calls s A n c p q h _ _ hs hn (by omega) (by omega)).mono ?_
    rw [HL.out]
    rintro e w1 ⟨rfl, hb⟩
    have B1 := Lib.hid ((Blk.new w 80 #[.string s, .slice A n c]).keep hb)
    have k1 := Lib.hid (hB0.trans (hb.mono (by simp)))
    have sz1 : w.heap.size < w1.heap.size := B1.out.lt
    clear hb hB0
    have cB0 := (B1.out.cell 0).trans rfl; have cB1 := (B1.out.cell 1).trans rfl; have cB0a := cell_al cB0; have cB1a := cell_al cB1
    go_wp2_with fail
    go_at_call 55
    refine (toProfile_calls s A n c p q h _ (HR.out.below k1.out (Nat.le_refl _)) hn2).mono ?_
    rintro e w2 ⟨Gt, rfl, hb, -, -, hc⟩
    have c1 := Lib.hid hc.row
    have sz2 := hb.size
    replace k1 := Lib.hid (k1.out.trans (hb.mono k1.out.size)); replace B1 := Lib.hid (B1.out.keep hb); (try replace W1 := Lib.hid (W1.out.keep hb)); (try replace X1 := Lib.hid (X1.out.keep hb)); (try replace G1 := Lib.hid (G1.out.keep hb)); (try replace gw1 := Lib.hid (gw1.out.keep hb)); (try replace gx1 := Lib.hid (gx1.out.keep hb)); (try replace gg1 := Lib.hid (gg1.out.keep hb))
    clear cB0 cB1 cB0a cB1a
    clear hb hc
    go_wp2_with fail
    go_at_call 60
    refine (CS.out _ _ _ c1.out).mono ?_
    rintro e w3 ⟨Aw, cw, Gw, rfl, hro, hGw, hb⟩
    have sz3 := hb.size
    replace k1 := Lib.hid (k1.out.trans (hb.mono k1.out.size)); replace B1 := Lib.hid (B1.out.keep hb); (try replace W1 := Lib.hid (W1.out.keep hb)); (try replace X1 := Lib.hid (X1.out.keep hb)); (try replace G1 := Lib.hid (G1.out.keep hb)); (try replace gw1 := Lib.hid (gw1.out.keep hb)); (try replace gx1 := Lib.hid (gx1.out.keep hb)); (try replace gg1 := Lib.hid (gg1.out.keep hb))
    have gw1 := Lib.hid hro
    have hGw2 := own_lt hro
    clear hb hro c1 CS
    have cB0 := (B1.out.cell 0).trans rfl; have cB1 := (B1.out.cell 1).trans rfl; have cB0a := cell_al cB0; have cB1a := cell_al cB1
    go_wp2_with fail
    go_at_call 55
    have hal := (Below.refl w3.heap.size w3).alloc (Nat.le_refl _) (.cells #[.string sw, .slice Aw nw cw] 84)
    refine (toProfile_calls s A n c p q h _ ((HR.out.below k1.out (Nat.le_refl _)).below hal (Nat.le_refl _)) hn2).mono ?_
    rintro e w4 ⟨Gx, rfl, hb0, hx1, hx2, hc⟩
    have hb := hal.trans (hb0.mono hal.size)
    have sz4 := hb0.size
    simp at hx1 sz4
    replace k1 := Lib.hid (k1.out.trans (hb.mono k1.out.size)); replace B1 := Lib.hid (B1.out.keep hb); (try replace W1 := Lib.hid (W1.out.keep hb)); (try replace X1 := Lib.hid (X1.out.keep hb)); (try replace G1 := Lib.hid (G1.out.keep hb)); (try replace gw1 := Lib.hid (gw1.out.keep hb)); (try replace gx1 := Lib.hid (gx1.out.keep hb)); (try replace gg1 := Lib.hid (gg1.out.keep hb))
    clear cB0 cB1 cB0a cB1a
    have W1 := Lib.hid ((Blk.new w3 84 #[.string sw, .slice Aw nw cw]).keep hb0)
    have gx1 := Lib.hid hc
    clear hb hb0 hal hc
    go_wp2_with fail
    go_at_call 61
    have hal := (Below.refl w4.heap.size w4).alloc (Nat.le_refl _) (.cells #[.string s, .slice (some ⟨Gx, 0, none⟩) n n] 84)
    refine (CI.out _ _ _ (gx1.out.keep hal).row).mono ?_
    rintro e w5 ⟨Ag, cg, Gg, rfl, hro, hGg, hb0⟩
    have hb := hal.trans (hb0.mono hal.size)
    have sz5 := hb0.size
    simp at hGg sz5
    replace k1 := Lib.hid (k1.out.trans (hb.mono k1.out.size)); replace B1 := Lib.hid (B1.out.keep hb); (try replace W1 := Lib.hid (W1.out.keep hb)); (try replace X1 := Lib.hid (X1.out.keep hb)); (try replace G1 := Lib.hid (G1.out.keep hb)); (try replace gw1 := Lib.hid (gw1.out.keep hb)); (try replace gx1 := Lib.hid (gx1.out.keep hb)); (try replace gg1 := Lib.hid (gg1.out.keep hb))
    have X1 := Lib.hid ((Blk.new w4 84 #[.string s, .slice (some ⟨Gx, 0, none⟩) n n]).keep hb0)
    obtain ⟨Gg2, hg1, hg2, hro2⟩ : ∃ G, w4.heap.size ≤ G ∧ G < w5.heap.size ∧ RingOwn w5 Ag nw a b d G := by
      rcases Nat.eq_zero_or_pos nw with h0 | h0
      · subst h0
        exact ⟨w4.heap.size, Nat.le_refl _, by omega, fun h => absurd h (Nat.lt_irrefl _)⟩
      · exact ⟨Gg, by omega, own_lt hro h0, hro⟩
    have gg1 := Lib.hid hro2
    clear hb hb0 hal hro hro2 hGg
    have cW0 := (W1.out.cell 0).trans rfl; have cW1 := (W1.out.cell 1).trans rfl; have cW0a := cell_al cW0; have cW1a := cell_al cW1
    go_wp2_with fail
    go_at_call 57
    have hal := (Below.refl w5.heap.size w5).alloc (Nat.le_refl _) (.cells #[.string sw, .slice Ag nw cg] 84)
    refine (eqProfile_calls sw _ _ nw _ _ a b d _ (gg1.out.keep hal).row (gw1.out.keep hal).row hnw).mono ?_
    rintro e w6 ⟨rfl, hb0⟩
    have hb := hal.trans (hb0.mono hal.size)
    have sz6 := hb0.size
    simp at sz6
    replace k1 := Lib.hid (k1.out.trans (hb.mono k1.out.size)); replace B1 := Lib.hid (B1.out.keep hb); (try replace W1 := Lib.hid (W1.out.keep hb)); (try replace X1 := Lib.hid (X1.out.keep hb)); (try replace G1 := Lib.hid (G1.out.keep hb)); (try replace gw1 := Lib.hid (gw1.out.keep hb)); (try replace gx1 := Lib.hid (gx1.out.keep hb)); (try replace gg1 := Lib.hid (gg1.out.keep hb))
    clear cW0 cW1 cW0a cW1a
    have G1 := Lib.hid ((Blk.new w5 84 #[.string sw, .slice Ag nw cg]).keep hb0)
    clear hb hb0 hal
    go_wp2_with fail
    refine wp_gen (fun W0 hW0 => ?_)
    have s0_ : Below w.heap.size w W0 := by rw [hW0]; exact k1.out
    have s1_ : Blk W0 w4.heap.size 84 #[.string s, .slice (some ⟨Gx, 0, none⟩) n n] := by rw [hW0]; exact X1.out
    have s2_ : Blk W0 w.heap.size 80 #[.string s, .slice A n c] := by rw [hW0]; exact B1.out
    have s3_ : Blk W0 w3.heap.size 84 #[.string sw, .slice Aw nw cw] := by rw [hW0]; exact W1.out
    have s4_ : Blk W0 w5.heap.size 84 #[.string sw, .slice Ag nw cg] := by rw [hW0]; exact G1.out
    have s5_ : RingOwn W0 (some ⟨Gx, 0, none⟩) n p q h Gx := by rw [hW0]; exact gx1.out
    have s6_ : RingOwn W0 Aw nw a b d Gw := by rw [hW0]; exact gw1.out
    have s7_ : RingOwn W0 Ag nw a b d Gg2 := by rw [hW0]; exact gg1.out
    have s8_ : w5.heap.size < W0.heap.size := by rw [hW0]; omega
    have s9_ : W0.cell? ⟨w4.heap.size, 0, none⟩ = some (.string s) := (s1_.cell 0).trans rfl
    have s10_ : W0.cell? ⟨w4.heap.size, 1, none⟩ = some (.slice (some ⟨Gx, 0, none⟩) n n) := (s1_.cell 1).trans rfl
    have s11_ : W0.cell? ⟨w.heap.size, 0, none⟩ = some (.string s) := (s2_.cell 0).trans rfl
    have s12_ : W0.cell? ⟨w.heap.size, 1, none⟩ = some (.slice A n c) := (s2_.cell 1).trans rfl
    clear k1 X1 B1 W1 G1 gx1 gw1 gg1
    clear hW0
    refine wp_region_held_drew (S := fun w' => Below w.heap.size w w' ∧ Blk w' w4.heap.size 84 #[.string s, .slice (some ⟨Gx, 0, none⟩) n n] ∧ Blk w' w.heap.size 80 #[.string s, .slice A n c] ∧ Blk w' w3.heap.size 84 #[.string sw, .slice Aw nw cw] ∧ Blk w' w5.heap.size 84 #[.string sw, .slice Ag nw cg] ∧ RingOwn w' (some ⟨Gx, 0, none⟩) n p q h Gx ∧ RingOwn w' Aw nw a b d Gw ∧ RingOwn w' Ag nw a b d Gg2 ∧ w5.heap.size < w'.heap.size ∧ w'.cell? ⟨w4.heap.size, 0, none⟩ = some (.string s) ∧ w'.cell? ⟨w4.heap.size, 1, none⟩ = some (.slice (some ⟨Gx, 0, none⟩) n n) ∧ w'.cell? ⟨w.heap.size, 0, none⟩ = some (.string s) ∧ w'.cell? ⟨w.heap.size, 1, none⟩ = some (.slice A n c)) (by kernel_rfl) ?_ (fun hHeld => ?_)
    · exact ⟨s0_.drew, s1_, s2_, s3_, s4_, s5_, s6_, s7_, s8_, s9_, s10_, s11_, s12_⟩
    clear s0_ s1_ s2_ s3_ s4_ s5_ s6_ s7_ s8_ s9_ s10_ s11_ s12_
    refine take_yes (i := 0) (d := 45) (v := ?_) _ rfl rfl (by kernel_rfl) (by kernel_rfl) (by kernel_rfl) (fun _ _ _ _ h => h) (by rfl) ?_ (by assumption) ?_
    rotate_left 1
    · ((intro w hSw; (try dsimp only at hSw); go_simp) <;> (try with_reducible rfl))
    (try simp only [Act.put, List.setIfInBounds_toArray, List.set_cons_zero, List.set_cons_succ])
    refine take_yes (i := 1) (d := 46) (v := ?_) _ rfl rfl (by kernel_rfl) (by kernel_rfl) (by kernel_rfl) (fun _ _ _ _ h => h) (by rfl) ?_ (by assumption) ?_
    rotate_left 1
    · ((intro w hSw; (try dsimp only at hSw); go_simp) <;> (try with_reducible rfl))
    (try simp only [Act.put, List.setIfInBounds_toArray, List.set_cons_zero, List.set_cons_succ])
    (refine wpAnyH_ready (rs := [2]) (by kernel_rfl) (by simp) ?_; refine AllReadyH.cons rfl (fun K hK => ?_) AllReadyH.nil; go_simp; go_at_call 55; refine (toProfile_calls s A n c p q h _ (HR.out.below (And.left hHeld) (Nat.le_refl _)) hn2).mono ?_; rintro e wd ⟨G3, rfl, hb, g1, g2, hnew⟩; refine hK.out _ _ (by obtain ⟨x0_, x1_, x2_, x3_, x4_, x5_, x6_, x7_, x8_, x9_, x10_, x11_, x12_⟩ := hHeld; exact ⟨x0_.trans (hb.mono x0_.size), x1_.keep hb, x2_.keep hb, x3_.keep hb, x4_.keep hb, x5_.keep hb, x6_.keep hb, x7_.keep hb, Nat.lt_of_lt_of_le x8_ hb.size, cell_keep hb x9_, cell_keep hb x10_, cell_keep hb x11_, cell_keep hb x12_⟩) (fun hHeld2 => ?_); clear hK K hHeld hb; have hHeld := hHeld2; clear hHeld2; (try simp only [Act.put, List.setIfInBounds_toArray, List.set_cons_zero, List.set_cons_succ]))
    (refine wpAnyH_ready (rs := [3]) (by kernel_rfl) (by simp) ?_; refine AllReadyH.cons rfl (fun K hK => ?_) AllReadyH.nil; go_simp; go_at_call 57; refine (eqProfile_calls s _ _ n _ _ p q h _ hHeld.2.2.2.2.2.1.row hnew.row hn2).mono ?_; rintro e wd ⟨rfl, hb⟩; refine hK.out _ _ (by obtain ⟨x0_, x1_, x2_, x3_, x4_, x5_, x6_, x7_, x8_, x9_, x10_, x11_, x12_⟩ := hHeld; exact ⟨x0_.trans (hb.mono x0_.size), x1_.keep hb, x2_.keep hb, x3_.keep hb, x4_.keep hb, x5_.keep hb, x6_.keep hb, x7_.keep hb, Nat.lt_of_lt_of_le x8_ hb.size, cell_keep hb x9_, cell_keep hb x10_, cell_keep hb x11_, cell_keep hb x12_⟩) (fun hHeld2 => ?_); clear hK K hHeld hb; have hHeld := hHeld2; clear hHeld2; (try simp only [Act.put, List.setIfInBounds_toArray, List.set_cons_zero, List.set_cons_succ]))
    refine take_yes (i := 4) (d := 49) (v := ?_) _ rfl rfl (by kernel_rfl) (by kernel_rfl) (by kernel_rfl) (fun _ _ _ _ h => h) (by rfl) ?_ (by assumption) ?_
    rotate_left 1
    · ((intro w hSw; (try dsimp only at hSw); go_simp) <;> (try with_reducible rfl))
    (try simp only [Act.put, List.setIfInBounds_toArray, List.set_cons_zero, List.set_cons_succ])
    refine wpAnyH_done (by kernel_rfl) ?_ _
    obtain ⟨z0, z1, z2, z3, z4, z5, z6, z7, z8, z9, z10, z11, z12⟩ := hHeld
    go_wp2_with fail
    go_at_call 58
    refine (markProfile_calls s _ n _ Gx p q h 1 _ z5 hn2 (by omega)).mono ?_
    rintro e w8 ⟨rfl, -, hg⟩
    have k1 := Lib.hid (z0.grown hg z0.size (fun k hk => by cases hk; omega))
    have B1 := Lib.hid (blk_grown z2 hg (fun e => by cases e; omega))
    have W1 := Lib.hid (blk_grown z3 hg (fun e => by cases e; omega))
    have G1 := Lib.hid (blk_grown z4 hg (fun e => by cases e; omega))
    have gw1 := Lib.hid (own_grown z6 hg (fun h => by have := hGw2 h; omega))
    have gg1 := Lib.hid (own_grown z7 hg (fun _ => by omega))
    obtain ⟨M, hM⟩ : ∃ M : Int, M = ((1 + 3 * n : Nat) : Int) := ⟨_, rfl⟩
    rw [← hM]
    have hM0 : 0 ≤ M := by omega
    clear hM hg z0 z1 z2 z3 z4 z5 z6 z7 z8 z9 z10 z11 z12
    have cG0 := (G1.out.cell 0).trans rfl; have cG1 := (G1.out.cell 1).trans rfl
    have cW0 := (W1.out.cell 0).trans rfl; have cW1 := (W1.out.cell 1).trans rfl; have cW0a := cell_al cW0; have cW1a := cell_al cW1
    go_wp2_with fail
    go_at_call 57
    refine (eqProfile_calls sw _ _ nw _ _ a b d _ gg1.out.row gw1.out.row hnw).mono ?_
    rintro e w9 ⟨rfl, hb⟩
    replace k1 := Lib.hid (k1.out.trans (hb.mono k1.out.size)); replace B1 := Lib.hid (B1.out.keep hb); (try replace W1 := Lib.hid (W1.out.keep hb)); (try replace X1 := Lib.hid (X1.out.keep hb)); (try replace G1 := Lib.hid (G1.out.keep hb)); (try replace gw1 := Lib.hid (gw1.out.keep hb)); (try replace gx1 := Lib.hid (gx1.out.keep hb)); (try replace gg1 := Lib.hid (gg1.out.keep hb))
    clear cW0 cW1 cW0a cW1a
    clear hb cG0 cG1
    have cG0 := (G1.out.cell 0).trans rfl; have cG1 := (G1.out.cell 1).trans rfl
    go_wp2_with fail
    go_at_call 58
    refine (markProfile_calls sw _ nw _ Gg2 a b d 1 _ gg1.out hnw (by omega)).mono ?_
    rintro e w10 ⟨rfl, hm, hg⟩
    replace k1 := Lib.hid (k1.out.grown hg k1.out.size (fun k hk => by cases hk; omega))
    replace B1 := Lib.hid (blk_grown B1.out hg (fun e => by cases e; omega))
    replace W1 := Lib.hid (blk_grown W1.out hg (fun e => by cases e; omega))
    replace G1 := Lib.hid (blk_grown G1.out hg (fun e => by cases e; omega))
    replace gw1 := Lib.hid (own_grown gw1.out hg (fun h => by have := hGw2 h; omega))
    clear gg1
    have gg1 := Lib.hid hm
    obtain ⟨M2, hM2⟩ : ∃ M : Int, M = ((1 + 3 * nw : Nat) : Int) := ⟨_, rfl⟩
    rw [← hM2]
    have hM3 : 0 ≤ M2 := by omega
    have HM2 := Lib.hid hM2
    clear hM2 hg hm cG0 cG1
    have cG0 := (G1.out.cell 0).trans rfl; have cG1 := (G1.out.cell 1).trans rfl
    go_wp2_with fail
    go_at_call 59
    refine (heldProfile_calls sw _ nw _ 1 _ gg1.out.row hnw (by omega)).mono ?_
    rintro e w11 ⟨rfl, hb⟩
    rw [← HM2.out]
    replace k1 := Lib.hid (k1.out.trans (hb.mono k1.out.size)); replace B1 := Lib.hid (B1.out.keep hb); (try replace W1 := Lib.hid (W1.out.keep hb)); (try replace X1 := Lib.hid (X1.out.keep hb)); (try replace G1 := Lib.hid (G1.out.keep hb)); (try replace gw1 := Lib.hid (gw1.out.keep hb)); (try replace gx1 := Lib.hid (gx1.out.keep hb)); (try replace gg1 := Lib.hid (gg1.out.keep hb))
    clear hb cG0 cG1
    have cB0 := (B1.out.cell 0).trans rfl; have cB1 := (B1.out.cell 1).trans rfl; have cB0a := cell_al cB0; have cB1a := cell_al cB1
    go_wp2_with fail
    go_at_call 55
    refine (toProfile_calls s A n c p q h _ (HR.out.below k1.out (Nat.le_refl _)) hn2).mono ?_
    rintro e w12 ⟨Gt2, rfl, hb, -, -, hc⟩
    have c1 := Lib.hid hc.row
    replace k1 := Lib.hid (k1.out.trans (hb.mono k1.out.size)); replace B1 := Lib.hid (B1.out.keep hb); (try replace W1 := Lib.hid (W1.out.keep hb)); (try replace X1 := Lib.hid (X1.out.keep hb)); (try replace G1 := Lib.hid (G1.out.keep hb)); (try replace gw1 := Lib.hid (gw1.out.keep hb)); (try replace gx1 := Lib.hid (gx1.out.keep hb)); (try replace gg1 := Lib.hid (gg1.out.keep hb))
    clear cB0 cB1 cB0a cB1a
    clear hb hc
    go_wp2_with fail
    go_at_call 61
    refine (CI.out _ _ _ c1.out).mono ?_
    rintro e w13 ⟨Ah, ch, Gh, rfl, hro, -, hb⟩
    replace k1 := Lib.hid (k1.out.trans (hb.mono k1.out.size)); replace B1 := Lib.hid (B1.out.keep hb); (try replace W1 := Lib.hid (W1.out.keep hb)); (try replace X1 := Lib.hid (X1.out.keep hb)); (try replace G1 := Lib.hid (G1.out.keep hb)); (try replace gw1 := Lib.hid (gw1.out.keep hb)); (try replace gx1 := Lib.hid (gx1.out.keep hb)); (try replace gg1 := Lib.hid (gg1.out.keep hb))
    have gh1 := Lib.hid hro
    clear hb hro c1 CI
    have cW0 := (W1.out.cell 0).trans rfl; have cW1 := (W1.out.cell 1).trans rfl; have cW0a := cell_al cW0; have cW1a := cell_al cW1
    go_wp2_with fail
    go_at_call 57
    have hal := (Below.refl w13.heap.size w13).alloc (Nat.le_refl _) (.cells #[.string sw, .slice Ah nw ch] 84)
    refine (eqProfile_calls sw _ _ nw _ _ a b d _ (gh1.out.keep hal).row (gw1.out.keep hal).row hnw).mono ?_
    rintro e w14 ⟨rfl, hb0⟩
    have hb := hal.trans (hb0.mono hal.size)
    replace k1 := Lib.hid (k1.out.trans (hb.mono k1.out.size)); replace B1 := Lib.hid (B1.out.keep hb); (try replace W1 := Lib.hid (W1.out.keep hb)); (try replace X1 := Lib.hid (X1.out.keep hb)); (try replace G1 := Lib.hid (G1.out.keep hb)); (try replace gw1 := Lib.hid (gw1.out.keep hb)); (try replace gx1 := Lib.hid (gx1.out.keep hb)); (try replace gg1 := Lib.hid (gg1.out.keep hb))
    clear cW0 cW1 cW0a cW1a
    clear hb hb0 hal gh1
    have cG0 := (G1.out.cell 0).trans rfl; have cG1 := (G1.out.cell 1).trans rfl
    go_wp2_with fail
    go_at_call 59
    refine (heldProfile_calls sw _ nw _ 1 _ gg1.out.row hnw (by omega)).mono ?_
    rintro e w15 ⟨rfl, hb⟩
    rw [← HM2.out]
    replace k1 := Lib.hid (k1.out.trans (hb.mono k1.out.size)); replace B1 := Lib.hid (B1.out.keep hb); (try replace W1 := Lib.hid (W1.out.keep hb)); (try replace X1 := Lib.hid (X1.out.keep hb)); (try replace G1 := Lib.hid (G1.out.keep hb)); (try replace gw1 := Lib.hid (gw1.out.keep hb)); (try replace gx1 := Lib.hid (gx1.out.keep hb)); (try replace gg1 := Lib.hid (gg1.out.keep hb))
    clear hb cG0 cG1
    go_wp2
    go_ret
    exact ⟨rfl, k1.out⟩
theorem own : ownKnob Try.prog.godebug = none := by kernel_rfl
theorem laidOut : laidOutB Try.prog = true := by kernel_rfl
set_option maxRecDepth 100000 in
theorem lifted (os : Os) (started : os.Started) (H : Type) (enc : TypeId × Value → H) :
    ReturnsInHanded {} Try.checked os 9 .any (Rows.fnExactMouldForSpec.pre6 enc Try.prog Try.f9 Rows.fnExactMouldForRow.domain false) (Rows.fnExactMouldForSpec.post enc Try.prog Try.f9 false true false false) := by
  refine returnsInHanded_of_change (C := Try.checked) own started (by kernel_rfl) Try.func9
    (ChangeSpec.witness6 (enc := enc) (C := Try.checked) false ⟨#[], #[.agg #[.string ⟨#[]⟩, .slice none 0 0], .int .i64 0], []⟩ 8 (by kernel_rfl) (by kernel_rfl) (by kernel_rfl) (by kernel_rfl)) ?_
  intro W base args ds gs before hval0 hW hcnd _
  have hval : ∀ (j : Nat) t v, Try.f9.params[j]? = some t → args[j]? = some v → Value.okWide Try.prog W .any base t v := hval0
  have hW' := hW
  obtain ⟨p, q, hA0, hV, rfl, hfz, hnd⟩ := hW
  have hA : DataW.TrodAll enc Try.prog W 0 (fun _ => true) true Try.f9.params.toList args.toList ds p := hA0
  rw [Try.params9] at hA hval
  obtain ⟨v0, vs0, d0, ds0, p0, q0, hargs, rfl, rfl, h0, r0⟩ := trodAll_cons hA
  obtain ⟨v1, vs1, d1, ds1, p1, q1, rfl, rfl, rfl, h1, r1⟩ := trodAll_cons r0
  obtain ⟨rfl, rfl, rfl⟩ := trodAll_nil r1
  obtain rfl : args = #[v0, v1] := by cases args; simp_all
  obtain ⟨rfl, rfl⟩ := trodVars_none hV
  have k0 := h0
  have lt0 : ∀ x ∈ p0, x.block < W.heap.size := by obtain ⟨m, hm⟩ := k0; exact DataW.trod_lt m _ _ _ hm
  have k1 := h1
  have lt1 : ∀ x ∈ p1, x.block < W.heap.size := by obtain ⟨m, hm⟩ := k1; exact DataW.trod_lt m _ _ _ hm
  obtain ⟨cs0, rfl, hz0⟩ := okWide_struct Try.underlying80 (hval 0 80 v0 rfl rfl)
  obtain ⟨l0⟩ := cs0
  obtain ⟨fu0, hf0⟩ := h0
  obtain ⟨hl0, n0, hg0⟩ := fields_of Try.underlying80 (by kernel_rfl) (by kernel_rfl) hf0
  obtain ⟨c0_0, c0_1, rfl⟩ := list2 hl0
  obtain ⟨y0_0, t0_0⟩ := hg0 0 _ rfl c0_0 rfl
  obtain ⟨s0_0, e0_0, _, ws0_0⟩ := DataW.trod_string Try.underlying9 t0_0
  obtain rfl := one_cell e0_0
  obtain ⟨y0_1, t0_1⟩ := hg0 1 _ rfl c0_1 rfl
  obtain ⟨A0_1, n0_1, m0_1, rfl⟩ := slice_cell Try.underlying78 t0_1
  obtain ⟨q0_1_0, q0_1_1, q0_1_2, hr0_1, hn0_1, r0_1_0, r0_1_1, r0_1_2⟩ := openRingS t0_1
  obtain ⟨a1, rfl, _, _, wa1⟩ := open_int Try.underlying2 (hval 1 2 v1 rfl rfl) h1
  clear hA0 hval0
  refine (walk s0_0 A0_1 n0_1 m0_1 q0_1_0 q0_1_1 q0_1_2 a1 W ws0_0 hr0_1 hn0_1 r0_1_0 r0_1_1 r0_1_2 wa1).mono fun e W' ⟨he, bel⟩ => ?_
  subst he
  exact ⟨_, rfl, _, _, _, [], _, [], hW', trodAll_mk1 (shut_bool Try.underlying4 _), (trodAll_cons_mk (Below.trod laidOut (by kernel_rfl) (of_decide_eq_true (by kernel_rfl)) k0 bel lt0) (trodAll_cons_mk (Below.trod laidOut (by kernel_rfl) (of_decide_eq_true (by kernel_rfl)) k1 bel lt1) trodAll_mk0)), rfl, bel.frame _, fun h => by cases h⟩
set_option maxHeartbeats 20000000 in
theorem closed : joinedFacts Try.pinned.checked.prog 9 Try.f9 Rows.fnExactMouldForSpec Rows.fnExactMouldForRow = true := by
  unfold joinedFacts
  simp only [Bool.and_eq_true]
  and_intros
  all_goals (as_aux_lemma => kernel_rfl)
theorem proved : Rows.FnExactMouldForSaid :=
  OpenClaim.holds_of_wide 9 Try.f9 rfl rfl rfl rfl rfl rfl rfl ⟨rfl, rfl, rfl, rfl, rfl⟩ rfl rfl rfl rfl rfl (by kernel_rfl) Try.func9 closed
    (of_decide_eq_true (by kernel_rfl)) (by unfold Func.isWrapper; first | (rw [if_pos (by decide +kernel)]; kernel_rfl) | (rw [if_neg (by decide +kernel)]; exact ⟨rfl, rfl⟩))
    (fun os started H enc _ => lifted os started H enc)
end Go.Proofs.Ytaanlkdpconfiaa.FnExactMouldFor
