/- FnForces: forces are the same on both sides, a bell pulls most when it hangs down, and does not push there: for every pair of codes; the table of sines reads as the program's text lays it (tied). -/
import Derived.Test.YtkbjampfmcegpaaDoorSineTab
import Derived.Test.YtkbjampfmcegpaaDoorForceLaw
import Derived.Test.YtkbjampfmcegpaaDoorForce2
import Derived.Test.YtkbjampfmcegpaaDoorDraw
namespace Go.Proofs.YtkbjampfmcegpaaDoor.FnForces
set_option linter.unusedVariables false
open Go.ChangeShapes Go.WideShapes Go.ChangeAt Go.RowKit Go.Deep
open Go.ChangeMaps (open_string shut_string)

theorem vert_ok {s : ByteArray} {m a f g : Int} (d : Int) (w : World) (h : HungOk s m a f g) (hT : HasTab w) (d0 : -g ≤ d) (d1 : d ≤ g) :
    Calls Tryd.prog 7 #[.agg #[.string s, .int .i64 m, .int .i64 a, .int .i64 f, .int .i64 g], .int .i64 d] w fun e w' => e = .returned (.tuple #[.int .i64 (vert m f g d), .int .i64 0]) ∧ Below w.heap.size w w' := by
  obtain ⟨hn, hm, ha, hf, hg⟩ := h
  have hs : s.size ≤ maxLen := by have := hn.2.1; unfold maxLen; omega
  have hv : hungB s m a f g = true := by simp [hungB, nameB_yes hn, inB_yes (show 1 ≤ m by omega) (show m ≤ 20000000 by omega), inB_yes (show 1 ≤ a by omega) (show a ≤ 30000 by omega), inB_yes (show 1 ≤ f by omega) (show f ≤ 1000 by omega), inB_yes (show 1 ≤ g by omega) (show g ≤ 180 by omega)]
  have hk : askF s m a f g d = 0 := by simp [askF, hv, inB_yes d0 d1]
  have h := VerticalAt_calls s m a f g d w hs hT
  rwa [hk, show vaV s m a f g d = vert m f g d by simp [vaV, hk]] at h
theorem hori_ok {s : ByteArray} {m a f g : Int} (d : Int) (w : World) (h : HungOk s m a f g) (hT : HasTab w) (d0 : -g ≤ d) (d1 : d ≤ g) :
    Calls Tryd.prog 8 #[.agg #[.string s, .int .i64 m, .int .i64 a, .int .i64 f, .int .i64 g], .int .i64 d] w fun e w' => e = .returned (.tuple #[.int .i64 (hori m f g d), .int .i64 0]) ∧ Below w.heap.size w w' := by
  obtain ⟨hn, hm, ha, hf, hg⟩ := h
  have hs : s.size ≤ maxLen := by have := hn.2.1; unfold maxLen; omega
  have hv : hungB s m a f g = true := by simp [hungB, nameB_yes hn, inB_yes (show 1 ≤ m by omega) (show m ≤ 20000000 by omega), inB_yes (show 1 ≤ a by omega) (show a ≤ 30000 by omega), inB_yes (show 1 ≤ f by omega) (show f ≤ 1000 by omega), inB_yes (show 1 ≤ g by omega) (show g ≤ 180 by omega)]
  have hk : askF s m a f g d = 0 := by simp [askF, hv, inB_yes d0 d1]
  have h := HorizontalAt_calls s m a f g d w hs hT
  rwa [hk, show haV s m a f g d = hori m f g d by simp [haV, hk]] at h
theorem gv_ok {s : ByteArray} {m a f g : Int} (w : World) (h : HungOk s m a f g) (hT : HasTab w) :
    Calls Tryd.prog 10 #[.agg #[.string s, .int .i64 m, .int .i64 a, .int .i64 f, .int .i64 g]] w fun e w' => e = .returned (.tuple #[.int .i64 (vert m f g 0), .int .i64 0, .int .i64 0]) ∧ Below w.heap.size w w' := by
  obtain ⟨hn, hm, ha, hf, hg⟩ := h
  have hs : s.size ≤ maxLen := by have := hn.2.1; unfold maxLen; omega
  have hv : hungB s m a f g = true := by simp [hungB, nameB_yes hn, inB_yes (show 1 ≤ m by omega) (show m ≤ 20000000 by omega), inB_yes (show 1 ≤ a by omega) (show a ≤ 30000 by omega), inB_yes (show 1 ≤ f by omega) (show f ≤ 1000 by omega), inB_yes (show 1 ≤ g by omega) (show g ≤ 180 by omega)]
  have hb := best_first (V := vert m f g) g.toNat fun k hk => vert_most (show 1 ≤ m by omega) (by omega) (by omega) (by omega) (show (k : Int) ≤ g by omega) (by omega)
  have h := GreatestVertical_calls s m a f g w hs hT
  rwa [hv, show okG true = 0 from rfl, show grV (vert m f g) s m a f g = vert m f g 0 by simp [grV, hv, hb], show grA (vert m f g) s m a f g = 0 by simp [grA, hv, hb]] at h
theorem gh_ok {s : ByteArray} {m a f g : Int} (d : Int) (w : World) (h : HungOk s m a f g) (hT : HasTab w) (d0 : 0 ≤ d) (d1 : d ≤ g) :
    Calls Tryd.prog 11 #[.agg #[.string s, .int .i64 m, .int .i64 a, .int .i64 f, .int .i64 g]] w fun e w' => (∃ x y : Int, 0 ≤ x ∧ hori m f g d ≤ x ∧ e = .returned (.tuple #[.int .i64 x, .int .i64 y, .int .i64 0])) ∧ Below w.heap.size w w' := by
  obtain ⟨hn, hm, ha, hf, hg⟩ := h
  have hs : s.size ≤ maxLen := by have := hn.2.1; unfold maxLen; omega
  have hv : hungB s m a f g = true := by simp [hungB, nameB_yes hn, inB_yes (show 1 ≤ m by omega) (show m ≤ 20000000 by omega), inB_yes (show 1 ≤ a by omega) (show a ≤ 30000 by omega), inB_yes (show 1 ≤ f by omega) (show f ≤ 1000 by omega), inB_yes (show 1 ≤ g by omega) (show g ≤ 180 by omega)]
  have h0 := best_ge (V := hori m f g) g.toNat 0 (by omega)
  have h1 := best_ge (V := hori m f g) g.toNat d.toNat (by omega)
  rw [show ((d.toNat : Nat) : Int) = d by omega] at h1
  rw [show ((0 : Nat) : Int) = 0 from rfl, hori_zero] at h0
  have h := GreatestHorizontal_calls s m a f g w hs hT
  rw [hv, show okG true = 0 from rfl, show grV (hori m f g) s m a f g = (best (hori m f g) g.toNat).1 by simp [grV, hv]] at h
  exact h.mono fun e w' ⟨he, hb⟩ => ⟨⟨_, _, h0, h1, he⟩, hb⟩
theorem weight_ok {m : Int} (w : World) (h0 : 1000 ≤ m) (h1 : m ≤ 3000000) :
    Calls Tryd.prog 9 #[.int .i64 m] w fun e w' => e = .returned (.tuple #[.int .i64 (wt m), .int .i64 0]) ∧ ∃ n, w' = w.drewN n := by
  have h := WeightOf_calls m w
  rwa [show wV m = wt m by simp [wV, inB_yes (show 0 ≤ m by omega) (show m ≤ 20000000 by omega)], show wC m = 0 by simp [wC, inB_yes (show 0 ≤ m by omega) (show m ≤ 20000000 by omega)]] at h
set_option maxRecDepth 100000 in
set_option maxHeartbeats 4000000 in
theorem walk (A : Option Addr) (n c : Nat) (B : Option Addr) (nb cb : Nat) (w : World) (hA : Code8 w A n) (hn : n ≤ maxLen) (hB : Code8 w B nb) (hnb : nb ≤ maxLen) (hT : HasTab w) :
    Calls Tryd.prog 3 #[.slice A n c, .slice B nb cb] w fun e w' => e = .returned (.bool true) ∧ Below w.heap.size w w' := by
  have HT := Lib.hid hT
  have hlt := hT.lt
  have HA := Lib.hid hA
  have HB := Lib.hid hB
  clear hT hA hB
  cases hl : (decide ((1048576 : Int) < n) || decide ((1048576 : Int) < nb))
  · go_enter Tryd.func3, Tryd.ntmps3
    go_wp2_with (go_at_call 4; refine (r8Long_calls _ _ _ _ _ _ _ hn hnb).mono ?_; rw [hl]; rintro e w1 ⟨rfl, rfl⟩)
    go_at_call 5
    refine (R8Hung_calls _ _ _ _ HA.out hn).mono ?_
    rintro e w1 ⟨s, m, a, f, g, hok, rfl, hb1⟩
    have HOK := Lib.hid hok
    have hB1 := Lib.hid hb1
    obtain ⟨-, ⟨m0, m1⟩, -, ⟨f0, f1⟩, ⟨g0, g1⟩⟩ := hok
    have hz1 := hb1.size
    clear hb1
    go_wp2_with fail
    go_at_call 6
    refine (r8At_calls _ _ _ _ _ _ (HB.out.below (hB1.out.alloc hz1 _) (Nat.le_refl _)) hnb (by omega) (by omega) (by omega) (by omega)).mono ?_
    rintro e w2 ⟨⟨d, ⟨d0, d1⟩, rfl⟩, rfl⟩
    have G := Lib.hid (Blk.new w1 25 #[.string s, .int .i64 m, .int .i64 a, .int .i64 f, .int .i64 g])
    have BW := Lib.hid (hB1.out.alloc hz1 (.cells #[.string s, .int .i64 m, .int .i64 a, .int .i64 f, .int .i64 g] 25))
    have x0 := (G.out.cell 0).trans rfl
    have x1 := (G.out.cell 1).trans rfl
    have x2 := (G.out.cell 2).trans rfl
    have x3 := (G.out.cell 3).trans rfl
    have x4 := (G.out.cell 4).trans rfl
    have HV := Lib.hid (show ∀ W, HasTab W → Calls Tryd.prog 7 #[.agg #[.string s, .int .i64 m, .int .i64 a, .int .i64 f, .int .i64 g], .int .i64 d] W (fun e w' => e = .returned (.tuple #[.int .i64 (vert m f g d), .int .i64 0]) ∧ Below W.heap.size W w') from fun W hW => vert_ok d W HOK.out hW (by omega) (by omega))
    have HVn := Lib.hid (show ∀ W, HasTab W → Calls Tryd.prog 7 #[.agg #[.string s, .int .i64 m, .int .i64 a, .int .i64 f, .int .i64 g], .int .i64 (-d)] W (fun e w' => e = .returned (.tuple #[.int .i64 (vert m f g d), .int .i64 0]) ∧ Below W.heap.size W w') from fun W hW => by have q := vert_ok (-d) W HOK.out hW (by omega) (by omega); rwa [vert_even d0 (by omega)] at q)
    have HV0 := Lib.hid (show ∀ W, HasTab W → Calls Tryd.prog 7 #[.agg #[.string s, .int .i64 m, .int .i64 a, .int .i64 f, .int .i64 g], .int .i64 0] W (fun e w' => e = .returned (.tuple #[.int .i64 (vert m f g 0), .int .i64 0]) ∧ Below W.heap.size W w') from fun W hW => vert_ok 0 W HOK.out hW (by omega) (by omega))
    have HH := Lib.hid (show ∀ W, HasTab W → Calls Tryd.prog 8 #[.agg #[.string s, .int .i64 m, .int .i64 a, .int .i64 f, .int .i64 g], .int .i64 d] W (fun e w' => e = .returned (.tuple #[.int .i64 (hori m f g d), .int .i64 0]) ∧ Below W.heap.size W w') from fun W hW => hori_ok d W HOK.out hW (by omega) (by omega))
    have HHn := Lib.hid (show ∀ W, HasTab W → Calls Tryd.prog 8 #[.agg #[.string s, .int .i64 m, .int .i64 a, .int .i64 f, .int .i64 g], .int .i64 (-d)] W (fun e w' => e = .returned (.tuple #[.int .i64 (-hori m f g d), .int .i64 0]) ∧ Below W.heap.size W w') from fun W hW => by have q := hori_ok (-d) W HOK.out hW (by omega) (by omega); rwa [hori_odd d0 (by omega)] at q)
    have HH0 := Lib.hid (show ∀ W, HasTab W → Calls Tryd.prog 8 #[.agg #[.string s, .int .i64 m, .int .i64 a, .int .i64 f, .int .i64 g], .int .i64 0] W (fun e w' => e = .returned (.tuple #[.int .i64 0, .int .i64 0]) ∧ Below W.heap.size W w') from fun W hW => by have q := hori_ok 0 W HOK.out hW (by omega) (by omega); rwa [hori_zero] at q)
    have HW := Lib.hid (show ∀ W, Calls Tryd.prog 9 #[.int .i64 m] W (fun e w' => e = .returned (.tuple #[.int .i64 (wt m), .int .i64 0]) ∧ ∃ n, w' = W.drewN n) from fun W => weight_ok W m0 m1)
    have HGV := Lib.hid (show ∀ W, HasTab W → Calls Tryd.prog 10 #[.agg #[.string s, .int .i64 m, .int .i64 a, .int .i64 f, .int .i64 g]] W (fun e w' => e = .returned (.tuple #[.int .i64 (vert m f g 0), .int .i64 0, .int .i64 0]) ∧ Below W.heap.size W w') from fun W hW => gv_ok W HOK.out hW)
    have HGH := Lib.hid (show ∀ W, HasTab W → Calls Tryd.prog 11 #[.agg #[.string s, .int .i64 m, .int .i64 a, .int .i64 f, .int .i64 g]] W (fun e w' => (∃ x y : Int, 0 ≤ x ∧ hori m f g d ≤ x ∧ e = .returned (.tuple #[.int .i64 x, .int .i64 y, .int .i64 0])) ∧ Below W.heap.size W w') from fun W hW => gh_ok d W HOK.out hW d0 (by omega))
    have l1 := vert_most (m := m) (f := f) (g := g) (d := d) (by omega) (by omega) (by omega) d0 (by omega) (by omega)
    have l2 := vert_zero (m := m) (f := f) (g := g) (by omega) (by omega) (by omega)
    have l3 := wt_one (m := m) m0
    have l4 : -1000000 ≤ hori m f g d ∧ hori m f g d ≤ 1000000 := by
      obtain ⟨b0, b1⟩ := wt_bd (show 0 ≤ m by omega) (show m ≤ 20000000 by omega)
      obtain ⟨c0, c1⟩ := cosF_bd d
      obtain ⟨k0, k1⟩ := cosF_bd g
      obtain ⟨s0, s1⟩ := sinF_bd d
      obtain ⟨_, _, h5, h6⟩ := hF_bd b0 b1 (show 1 ≤ f by omega) (show f ≤ 1000 by omega) c0 c1 k0 k1 s0 s1
      exact ⟨nr_ge (c := 1000000) (by omega) (by omega) (by omega), nr_le (by omega) (by omega) (by omega)⟩
    obtain ⟨l5, l6⟩ := l4
    generalize vert m f g d = V at *
    generalize vert m f g 0 = V0 at *
    generalize hori m f g d = H at *
    generalize wt m = WT at *
    clear hB1
    go_wp2_with (first
      | (go_at_call 7; with_reducible refine (HV.out _ (HT.out.below BW.out hlt)).mono ?_; rintro e w2 ⟨rfl, hb⟩; have G2 := Lib.hid (G.out.keep hb); have B2 := Lib.hid (BW.out.trans (hb.mono BW.out.size)); clear G BW hb x0 x1 x2 x3 x4; have G := G2; have BW := B2; clear G2 B2; have x0 := (G.out.cell 0).trans rfl; have x1 := (G.out.cell 1).trans rfl; have x2 := (G.out.cell 2).trans rfl; have x3 := (G.out.cell 3).trans rfl; have x4 := (G.out.cell 4).trans rfl)
      | (go_at_call 7; with_reducible refine (HVn.out _ (HT.out.below BW.out hlt)).mono ?_; rintro e w2 ⟨rfl, hb⟩; have G2 := Lib.hid (G.out.keep hb); have B2 := Lib.hid (BW.out.trans (hb.mono BW.out.size)); clear G BW hb x0 x1 x2 x3 x4; have G := G2; have BW := B2; clear G2 B2; have x0 := (G.out.cell 0).trans rfl; have x1 := (G.out.cell 1).trans rfl; have x2 := (G.out.cell 2).trans rfl; have x3 := (G.out.cell 3).trans rfl; have x4 := (G.out.cell 4).trans rfl)
      | (go_at_call 7; with_reducible refine (HV0.out _ (HT.out.below BW.out hlt)).mono ?_; rintro e w2 ⟨rfl, hb⟩; have G2 := Lib.hid (G.out.keep hb); have B2 := Lib.hid (BW.out.trans (hb.mono BW.out.size)); clear G BW hb x0 x1 x2 x3 x4; have G := G2; have BW := B2; clear G2 B2; have x0 := (G.out.cell 0).trans rfl; have x1 := (G.out.cell 1).trans rfl; have x2 := (G.out.cell 2).trans rfl; have x3 := (G.out.cell 3).trans rfl; have x4 := (G.out.cell 4).trans rfl)
      | (go_at_call 8; with_reducible refine (HH.out _ (HT.out.below BW.out hlt)).mono ?_; rintro e w2 ⟨rfl, hb⟩; have G2 := Lib.hid (G.out.keep hb); have B2 := Lib.hid (BW.out.trans (hb.mono BW.out.size)); clear G BW hb x0 x1 x2 x3 x4; have G := G2; have BW := B2; clear G2 B2; have x0 := (G.out.cell 0).trans rfl; have x1 := (G.out.cell 1).trans rfl; have x2 := (G.out.cell 2).trans rfl; have x3 := (G.out.cell 3).trans rfl; have x4 := (G.out.cell 4).trans rfl)
      | (go_at_call 8; with_reducible refine (HHn.out _ (HT.out.below BW.out hlt)).mono ?_; rintro e w2 ⟨rfl, hb⟩; have G2 := Lib.hid (G.out.keep hb); have B2 := Lib.hid (BW.out.trans (hb.mono BW.out.size)); clear G BW hb x0 x1 x2 x3 x4; have G := G2; have BW := B2; clear G2 B2; have x0 := (G.out.cell 0).trans rfl; have x1 := (G.out.cell 1).trans rfl; have x2 := (G.out.cell 2).trans rfl; have x3 := (G.out.cell 3).trans rfl; have x4 := (G.out.cell 4).trans rfl)
      | (go_at_call 8; with_reducible refine (HH0.out _ (HT.out.below BW.out hlt)).mono ?_; rintro e w2 ⟨rfl, hb⟩; have G2 := Lib.hid (G.out.keep hb); have B2 := Lib.hid (BW.out.trans (hb.mono BW.out.size)); clear G BW hb x0 x1 x2 x3 x4; have G := G2; have BW := B2; clear G2 B2; have x0 := (G.out.cell 0).trans rfl; have x1 := (G.out.cell 1).trans rfl; have x2 := (G.out.cell 2).trans rfl; have x3 := (G.out.cell 3).trans rfl; have x4 := (G.out.cell 4).trans rfl)
      | (go_at_call 9; refine (HW.out _).mono ?_; rintro e w2 ⟨rfl, nd, rfl⟩; have G2 := Lib.hid (G.out.drewN nd); have B2 := Lib.hid (below_drewN BW.out nd); clear G BW; have G := G2; have BW := B2; clear G2 B2)
      | (go_at_call 10; refine (HGV.out _ (HT.out.below BW.out hlt)).mono ?_; rintro e w2 ⟨rfl, hb⟩; have G2 := Lib.hid (G.out.keep hb); have B2 := Lib.hid (BW.out.trans (hb.mono BW.out.size)); clear G BW hb x0 x1 x2 x3 x4; have G := G2; have BW := B2; clear G2 B2; have x0 := (G.out.cell 0).trans rfl; have x1 := (G.out.cell 1).trans rfl; have x2 := (G.out.cell 2).trans rfl; have x3 := (G.out.cell 3).trans rfl; have x4 := (G.out.cell 4).trans rfl))
    go_at_call 11
    refine (HGH.out _ (HT.out.below BW.out hlt)).mono ?_
    rintro e w3 ⟨⟨x, y, hx0, hx1, rfl⟩, hb⟩
    have BF := Lib.hid (BW.out.trans (hb.mono BW.out.size))
    clear hb G BW x0 x1 x2 x3 x4
    go_wp2
    go_ret
    exact ⟨rfl, BF.out⟩
  · go_enter Tryd.func3, Tryd.ntmps3
    go_wp2_with (go_at_call 4; refine (r8Long_calls _ _ _ _ _ _ _ hn hnb).mono ?_; rw [hl]; rintro e w1 ⟨rfl, rfl⟩)
    go_ret
    exact ⟨rfl, Below.refl _ _⟩

theorem own : ownKnob Tryd.prog.godebug = none := by kernel_rfl
theorem laidOut : laidOutB Tryd.prog = true := by kernel_rfl
theorem door_met (os : Os) (args : Array Value) : laidMetH Tryd.prog Rows.fnForcesRow.laid ((World.doorLaid Tryd.prog 14 os).forCall (fun _ _ => 0) ⟨#[], args, []⟩).memory :=
  laidMetH_of_parts3 (fuel := 8) (laidMet_of_run' 8 (by kernel_rfl) (by kernel_rfl)) (by kernel_rfl) (by kernel_rfl)
set_option maxRecDepth 100000 in
theorem lifted (os : Os) (started : os.Started) (H : Type) (enc : TypeId × Value → H) :
    ReturnsInHanded {} Tryd.checked os 3 .any (fun w args => (Rows.fnForcesSpec.pre enc Tryd.prog Tryd.f3 [] false w args ∧ laidMetH Tryd.prog Rows.fnForcesRow.laid w) ∧ sizedMet enc Tryd.prog Tryd.f3 (OpenSpec.ofChange Rows.fnForcesSpec) false w args)
      (Rows.fnForcesSpec.post enc Tryd.prog Tryd.f3 false true false false) := by
  refine returnsInHanded_of_change_and (C := Tryd.checked) (X := fun w _ => laidMetH Tryd.prog Rows.fnForcesRow.laid w) (fun _ _ _ hh h => h.of_heap hh) own started (by kernel_rfl) Tryd.func3
    (ChangeSpec.witness_shaped (enc := enc) (C := Tryd.checked) (os := os) (X := fun w _ => laidMetH Tryd.prog Rows.fnForcesRow.laid w) false (World.doorLaid Tryd.prog 14 os) #[.slice none 0 0, .slice none 0 0] 8 rfl (World.shaped_of_RefB (by kernel_rfl) (by kernel_rfl)) (by kernel_rfl) (by kernel_rfl) (by kernel_rfl) (door_met os _)) ?_
  intro W base args ds gs before hval0 hW _ _ hL _
  have hval : ∀ (j : Nat) t v, Tryd.f3.params[j]? = some t → args[j]? = some v → Value.okWide Tryd.prog W .any base t v := hval0
  have hW' := hW
  obtain ⟨p, q, hA0, hV, rfl, hfz, hnd⟩ := hW
  have hA : DataW.TrodAll enc Tryd.prog W 0 (fun _ => true) true Tryd.f3.params.toList args.toList ds p := hA0
  rw [Tryd.params3] at hA hval
  obtain ⟨v0, vs0, d0, ds0, p0, q0, hargs, rfl, rfl, h0, r0⟩ := trodAll_cons hA
  obtain ⟨v1, vs1, d1, ds1, p1, q1, rfl, rfl, rfl, h1, r1⟩ := trodAll_cons r0
  obtain ⟨rfl, rfl, rfl⟩ := trodAll_nil r1
  obtain rfl : args = #[v0, v1] := by cases args; simp_all
  obtain ⟨vg, vt, vcs, vfuel, vd, vp, rfl, hg1, hg2, hg3, hg4, rfl⟩ := trodVars_one hV
  have k0 := h0
  have lt0 : ∀ x ∈ p0, x.block < W.heap.size := by obtain ⟨m, hm⟩ := k0; exact DataW.trod_lt m _ _ _ hm
  have k1 := h1
  have lt1 : ∀ x ∈ p1, x.block < W.heap.size := by obtain ⟨m, hm⟩ := k1; exact DataW.trod_lt m _ _ _ hm
  obtain ⟨A0, n0, m0, rfl⟩ := okWide_slice Tryd.underlying22 (hval 0 22 v0 rfl rfl)
  obtain ⟨fu0, hf0⟩ := h0
  obtain ⟨hr0, hn0⟩ := openBytes hf0
  obtain ⟨A1, n1, m1, rfl⟩ := okWide_slice Tryd.underlying22 (hval 1 22 v1 rfl rfl)
  obtain ⟨fu1, hf1⟩ := h1
  obtain ⟨hr1, hn1⟩ := openBytes hf1
  clear hA0 hval0
  refine (walk A0 n0 m0 A1 n1 m1 W hr0 hn0 hr1 hn1 (hasTab_of hL)).mono fun e W' ⟨he, bel⟩ => ?_
  subst he
  have hgt : vt = 50 := Option.some.inj (hg2.symm.trans ((show vg = 0 from Option.some.inj (hg1.symm.trans (by kernel_rfl))) ▸ (by kernel_rfl : (Tryd.prog.globals[0]?).map (·.type) = some 50)))
  subst hgt
  obtain ⟨vfuel', hg5⟩ := Below.trod laidOut (by kernel_rfl) (of_decide_eq_true (by kernel_rfl)) (v := .agg vcs) ⟨vfuel, by have h6 : DataW.trod enc Tryd.prog W 0 (fun _ => true) true vfuel 50 vcs.toList = some (vd, vp) := hg4; simpa [Value.cells] using h6⟩ bel (DataW.trod_lt vfuel _ _ _ hg4)
  have hv := trodVars_mk1 hg1 hg2 (var_below bel hg1 hg3) (by have h7 : DataW.trod enc Tryd.prog W' 0 (fun b => decide (b < W.heap.size)) true vfuel' 50 vcs.toList = some (vd, vp) := (by simpa [Value.cells] using hg5); exact h7)
  exact ⟨_, rfl, _, _, _, [], _, _, hW', trodAll_mk1 (shut_bool Tryd.underlying4 _), (trodAll_cons_mk (Below.trod laidOut (by kernel_rfl) (of_decide_eq_true (by kernel_rfl)) k0 bel lt0) (trodAll_cons_mk (Below.trod laidOut (by kernel_rfl) (of_decide_eq_true (by kernel_rfl)) k1 bel lt1) trodAll_mk0)), hv, bel.frame _, fun h => by cases h⟩
theorem said : Rows.FnForcesSaid :=
  OpenClaim.holds_of_wide 3 Tryd.f3 rfl rfl rfl rfl rfl rfl rfl ⟨rfl, rfl, rfl, rfl, rfl⟩ rfl rfl rfl rfl rfl (by kernel_rfl) Tryd.func3 (by kernel_rfl)
    (of_decide_eq_true (by kernel_rfl)) (by unfold Func.isWrapper; first | (rw [if_pos (by decide +kernel)]; kernel_rfl) | (rw [if_neg (by decide +kernel)]; exact ⟨rfl, rfl⟩))
    (fun os started H enc _ => lifted os started H enc)
theorem plain (f : FuncId) (fn : Func) (hf : Tryd.pinned.checked.prog.funcNamed Tryd.f3.name = some f) (hfn : Tryd.pinned.checked.prog.funcs[f]? = some fn) :
    false = Tryd.pinned.checked.prog.looks [] ∧ ∀ (j : Nat) t, fn.params[j]? = some t → Tryd.pinned.checked.prog.wantsStandIn t = false := by
  obtain rfl : f = 3 := Option.some.inj ((show Tryd.prog.funcNamed Tryd.f3.name = some 3 by kernel_rfl).symm.trans hf) |>.symm
  obtain rfl : fn = Tryd.f3 := (Option.some.inj (Tryd.func3.symm.trans hfn)).symm
  refine ⟨by kernel_rfl, fun j t ht => ?_⟩
  rw [Tryd.params3] at ht
  have hm : t ∈ [22, 22] := by simpa using Array.mem_of_getElem? ht
  have hall : ([22, 22].all fun u => !Tryd.prog.wantsStandIn u) = true := by kernel_rfl
  exact (show Tryd.prog.wantsStandIn t = false by simpa using List.all_eq_true.1 hall t hm)
theorem proved : Rows.FnForcesCardSaid :=
  Claim7.holds_tied_plain_at .later [] _ _ _ _ said (fun _ h => by cases h) (by kernel_rfl) (fun _ h => by cases h) fnForces_row_tie rfl ⟨rfl, rfl⟩ (by kernel_rfl) rfl plain (by kernel_rfl)
end Go.Proofs.YtkbjampfmcegpaaDoor.FnForces
