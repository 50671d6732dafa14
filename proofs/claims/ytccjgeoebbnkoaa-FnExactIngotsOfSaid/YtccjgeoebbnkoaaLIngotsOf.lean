/- FnExactIngotsOf: the program's IngotsOf and the reference's give the same of all melts and every bell. No further condition. -/
import Derived.Test.YtccjgeoebbnkoaaBellOp


import Derived.Test.YtccjgeoebbnkoaaRows
import Derived.Test.YtccjgeoebbnkoaaFrame
import Derived.Test.YtccjgeoebbnkoaaIngots2
namespace Go.Proofs.Ytccjgeoebbnkoaa.FnExactIngotsOf
set_option linter.unusedVariables false
set_option linter.unusedSimpArgs false
open Go.ChangeShapes Go.WideShapes Go.ChangeAt Go.RowKit Go.Deep
open Go.ChangeMaps (open_string shut_string)
theorem MeltShape.mono {w : World} {A : Option Addr} {n lo hi lo2 hi2 : Nat} {ns : Nat → Nat} (h : MeltShape w A n ns lo hi) (h1 : lo2 ≤ lo) (h2 : hi ≤ hi2) : MeltShape w A n ns lo2 hi2 := fun hn => by
  obtain ⟨g, T, arr, hA, l1, l2, hb, ha⟩ := h hn
  exact ⟨g, T, arr, hA, by omega, by omega, hb, fun i hi => by
    obtain ⟨a, b, A2, c2, e, hsh⟩ := ha i hi
    exact ⟨a, b, A2, c2, e, fun h0 => by
      obtain ⟨g, T, arr, hA, l1, l2, hb, ha⟩ := hsh h0
      exact ⟨g, T, arr, hA, by omega, by omega, hb, ha⟩⟩⟩
theorem share_shape {w : World} {n lo hi G : Nat} {ss : Nat → ByteArray} {ms : Nat → Int} (h : ShareOwn w (some ⟨G, 0, none⟩) n ss ms G) (h1 : lo ≤ G) (h2 : G < hi) : ShareShape w (some ⟨G, 0, none⟩) n lo hi := fun h0 => by
  obtain ⟨-, arr, hb, -, ha⟩ := h h0
  exact ⟨G, _, arr, rfl, h1, h2, hb, fun j hj => ⟨⟨_, (ha j hj).1⟩, _, (ha j hj).2⟩⟩
set_option maxHeartbeats 1000000 in
theorem markBell_kin (s : ByteArray) (no ma fe : Int) (A : Option Addr) (n c lo hi k : Nat) (w : World) (h : ShareShape w A n lo hi) (hw : hi ≤ w.heap.size) (hn : n ≤ 1048576) (h1 : 1 ≤ k) (hk : k ≤ 1000000000) :
    Calls Try.prog 44 #[.agg #[.string s, .int .i64 no, .int .i64 ma, .int .i64 fe, .slice A n c], .int .i64 k] w fun e w' => e = .returned (.int .i64 ((k + 2 * n : Nat) : Int)) ∧ Kin lo hi w w' := by
  have hal := (Below.refl w.heap.size w).alloc (Nat.le_refl _) (.cells #[.string s, .int .i64 no, .int .i64 ma, .int .i64 fe, .slice A n c] 62)
  have H := Lib.hid (h.kin (Kin.of hal))
  have HAL := Lib.hid (Kin.of (lo := lo) (hi := hi) hal)
  have hsz := hal.size
  have HW := Lib.hid (Nat.le_trans hw hsz)
  clear h hal hsz
  go_enter Try.func44, Try.ntmps44
  go_wp2_with (go_at_call 58; refine (markShareS_kin A n c lo hi k _ H.out HW.out hn h1 hk).mono ?_; rintro e w1 ⟨rfl, hk1⟩; have HK := Lib.hid (HAL.out.trans hk1); clear hk1)
  go_ret
  exact ⟨rfl, HK.out⟩
theorem both (m : Nat) (g : Nat → MeltV) (s : ByteArray) (no ma fe : Int) (n : Nat) (ss : Nat → ByteArray) (ms : Nat → Int) (hm : m ≤ 1048576) (hg : ∀ i, i < m → FineM (g i)) (hs : s.size ≤ maxLen) (hss : ∀ i, i < n → (ss i).size ≤ maxLen) (hn : n ≤ 1048576) : ∃ (L : Nat) (S : Nat → ByteArray) (code : Int), L ≤ 1048576 ∧
    (∀ W B d A c, MeltRow W B m g → ShareRow W A n ss ms → Calls Try.prog 46 #[.slice B m d, .agg #[.string s, .int .i64 no, .int .i64 ma, .int .i64 fe, .slice A n c]] W fun e w' => ∃ v, e = .returned (.tuple #[v, .int .i64 code]) ∧ ∃ A c G, v = .slice A L c ∧ StrOwn w' A L S G ∧ W.heap.size ≤ G ∧ Below W.heap.size W w') ∧
    (∀ W B d A c, m ≤ d → MeltRow W B m g → ShareRow W A n ss ms → Calls Try.prog 47 #[.slice B m d, .agg #[.string s, .int .i64 no, .int .i64 ma, .int .i64 fe, .slice A n c]] W fun e w' => ∃ v, e = .returned (.tuple #[v, .int .i64 code]) ∧ ∃ A c G, v = .slice A L c ∧ StrOwn w' A L S G ∧ W.heap.size ≤ G ∧ Below W.heap.size W w') :=
  ⟨_, _, _, Nat.le_trans (ioL_len (g := g) (m := m) (x := ⟨s, no, ma, fe, n, ss, ms⟩)) (by omega), fun W B d A c h1 h2 => sIngotsOf_calls B m d g s no ma fe A n c ss ms W h1 hm hg hs h2 hss hn, fun W B d A c hd h1 h2 => IngotsOf_calls B m d g s no ma fe A n c ss ms W h1 hm hd hg hs h2 hss hn⟩
set_option maxHeartbeats 8000000 in
theorem walk (B : Option Addr) (m d : Nat) (g : Nat → MeltV) (s : ByteArray) (no ma fe : Int) (A : Option Addr) (n c : Nat) (ss : Nat → ByteArray) (ms : Nat → Int) (w : World) (hr2 : MeltRow w B m g) (hm : m ≤ maxLen) (hft2 : ∀ i, i < m → FitM (g i)) (hs : s.size ≤ maxLen) (wno : (Lit.int .i64 no).wf = true) (wma : (Lit.int .i64 ma).wf = true) (wfe : (Lit.int .i64 fe).wf = true) (hr : ShareRow w A n ss ms) (hn : n ≤ maxLen) (hss : ∀ i, i < n → (ss i).size ≤ maxLen) (wms : ∀ i, i < n → (Lit.int .i64 (ms i)).wf = true) :
    Calls Try.prog 9 #[.slice B m d, .agg #[.string s, .int .i64 no, .int .i64 ma, .int .i64 fe, .slice A n c]] w fun e w' => e = .returned (.bool true) ∧ Below w.heap.size w w' := by
  have HFM := Lib.hid hft2
  have HR := Lib.hid hr
  have HM := Lib.hid hr2
  have HSS := Lib.hid hss
  have k1 := Lib.hid ((Below.refl w.heap.size w).alloc (Nat.le_refl _) (.cells #[.string s, .int .i64 no, .int .i64 ma, .int .i64 fe, .slice A n c] 51))
  have B1 := Lib.hid (Blk.new w 51 #[.string s, .int .i64 no, .int .i64 ma, .int .i64 fe, .slice A n c])
  clear hr hr2 hft2 hss wms wno wma wfe
  by_cases hb1 : (1048576 : Int) < (m : Int) + sumM g m
  · go_enter Try.func9, Try.ntmps9
    go_wp2_with (go_at_call 20; refine (szMeltS_calls _ _ _ _ _ _ (HM.out.keep k1.out) HFM.out hm (by omega) (by omega)).mono ?_; rw [if_pos hb1]; rintro e w1 ⟨rfl, hb⟩; replace k1 := Lib.hid (k1.out.trans (hb.mono k1.out.size)); (try replace B1 := Lib.hid (B1.out.keep hb)); (try replace gw1 := Lib.hid (gw1.out.keep hb)); (try replace gg1 := Lib.hid (gg1.out.keep hb)); (try replace X1 := Lib.hid (X1.out.keep hb)); (try replace xr1 := Lib.hid (xr1.out.keep hb)); (try replace xs1 := Lib.hid (xs1.out.kin (Kin.of hb))); (try replace xb1 := Lib.hid (ShareRow.keep xb1.out hb)); (try replace xq1 := Lib.hid (xq1.out.kin (Kin.of hb))); (try have hhi2 := Nat.le_trans hhi hb.size); (try clear hhi); (try have hhi := hhi2); (try clear hhi2); clear hb)
    go_ret
    exact ⟨rfl, k1.out⟩
  · obtain ⟨L0, hL⟩ : ∃ L : Int, L = 1048576 - ((m : Int) + sumM g m) := ⟨_, rfl⟩
    have hL0 : 0 ≤ L0 := by omega
    have hL1 : L0 ≤ 1048576 := by omega
    have hm2 : m ≤ 1048576 := by omega
    have hsumM : m + sumN (fun i => (g i).n) m ≤ 1048576 := by have := sumN_sumM g m; omega
    have HG2 := Lib.hid (fineM_of HFM.out (by omega))
    have HL := Lib.hid hL
    clear hL
    by_cases hb2 : L0 < s.size + ((n : Int) + sumS ss n)
    · go_enter Try.func9, Try.ntmps9
      go_wp2_with fail
      go_at_call 20
      refine (szMeltS_calls _ _ _ _ _ _ (HM.out.keep k1.out) HFM.out hm (by omega) (by omega)).mono ?_
      rw [if_neg (by omega), ← HL.out]
      rintro e w1 ⟨rfl, hb⟩
      replace k1 := Lib.hid (k1.out.trans (hb.mono k1.out.size)); (try replace B1 := Lib.hid (B1.out.keep hb)); (try replace gw1 := Lib.hid (gw1.out.keep hb)); (try replace gg1 := Lib.hid (gg1.out.keep hb)); (try replace X1 := Lib.hid (X1.out.keep hb)); (try replace xr1 := Lib.hid (xr1.out.keep hb)); (try replace xs1 := Lib.hid (xs1.out.kin (Kin.of hb))); (try replace xb1 := Lib.hid (ShareRow.keep xb1.out hb)); (try replace xq1 := Lib.hid (xq1.out.kin (Kin.of hb))); (try have hhi2 := Nat.le_trans hhi hb.size); (try clear hhi); (try have hhi := hhi2); (try clear hhi2)
      clear hb
      have c0 := (B1.out.cell 0).trans rfl
      have c1 := (B1.out.cell 1).trans rfl
      have c2 := (B1.out.cell 2).trans rfl
      have c3 := (B1.out.cell 3).trans rfl
      have c4 := (B1.out.cell 4).trans rfl
      go_wp2_with (go_at_call 31; refine (szBell_calls _ _ _ _ _ _ _ _ _ _ _ (ShareRow.keep HR.out k1.out) hs HSS.out hn (by omega) (by omega)).mono ?_; rw [show szV L0 s n ss = -1 by unfold szV; rw [if_pos (by omega)]]; rintro e w2 ⟨rfl, hb⟩; replace k1 := Lib.hid (k1.out.trans (hb.mono k1.out.size)); (try replace B1 := Lib.hid (B1.out.keep hb)); (try replace gw1 := Lib.hid (gw1.out.keep hb)); (try replace gg1 := Lib.hid (gg1.out.keep hb)); (try replace X1 := Lib.hid (X1.out.keep hb)); (try replace xr1 := Lib.hid (xr1.out.keep hb)); (try replace xs1 := Lib.hid (xs1.out.kin (Kin.of hb))); (try replace xb1 := Lib.hid (ShareRow.keep xb1.out hb)); (try replace xq1 := Lib.hid (xq1.out.kin (Kin.of hb))); (try have hhi2 := Nat.le_trans hhi hb.size); (try clear hhi); (try have hhi := hhi2); (try clear hhi2); clear hb)
      go_ret
      exact ⟨rfl, k1.out⟩
    · have hn2 : n ≤ 1048576 := by omega
      obtain ⟨L2, hL2⟩ : ∃ L2, L2 = szV L0 s n ss := ⟨_, rfl⟩
      have hL20 : 0 ≤ L2 := by rw [hL2]; unfold szV; rw [if_neg hb2]; omega
      have HL2 := Lib.hid hL2
      have HNM := Lib.hid (show ∀ i, i < m → (g i).n ≤ 1048576 from fun i hi => (HG2.out i hi).2.2)
      obtain ⟨L, S, code, hLL, hcs, hci⟩ := both m g s no ma fe n ss ms hm2 HG2.out hs HSS.out hn2
      have CS := Lib.hid hcs
      have CI := Lib.hid hci
      clear hL2 hcs hci
      go_enter Try.func9, Try.ntmps9
      go_wp2_with fail
      go_at_call 20
      refine (szMeltS_calls _ _ _ _ _ _ (HM.out.keep k1.out) HFM.out hm (by omega) (by omega)).mono ?_
      rw [if_neg (by omega), ← HL.out]
      rintro e w1 ⟨rfl, hb⟩
      replace k1 := Lib.hid (k1.out.trans (hb.mono k1.out.size)); (try replace B1 := Lib.hid (B1.out.keep hb)); (try replace gw1 := Lib.hid (gw1.out.keep hb)); (try replace gg1 := Lib.hid (gg1.out.keep hb)); (try replace X1 := Lib.hid (X1.out.keep hb)); (try replace xr1 := Lib.hid (xr1.out.keep hb)); (try replace xs1 := Lib.hid (xs1.out.kin (Kin.of hb))); (try replace xb1 := Lib.hid (ShareRow.keep xb1.out hb)); (try replace xq1 := Lib.hid (xq1.out.kin (Kin.of hb))); (try have hhi2 := Nat.le_trans hhi hb.size); (try clear hhi); (try have hhi := hhi2); (try clear hhi2)
      clear hb
      have c0 := (B1.out.cell 0).trans rfl
      have c1 := (B1.out.cell 1).trans rfl
      have c2 := (B1.out.cell 2).trans rfl
      have c3 := (B1.out.cell 3).trans rfl
      have c4 := (B1.out.cell 4).trans rfl
      go_wp2_with fail
      go_at_call 31
      refine (szBell_calls _ _ _ _ _ _ _ _ _ _ _ (ShareRow.keep HR.out k1.out) hs HSS.out hn (by omega) (by omega)).mono ?_
      rw [← HL2.out]
      rintro e w2 ⟨rfl, hb⟩
      replace k1 := Lib.hid (k1.out.trans (hb.mono k1.out.size)); (try replace B1 := Lib.hid (B1.out.keep hb)); (try replace gw1 := Lib.hid (gw1.out.keep hb)); (try replace gg1 := Lib.hid (gg1.out.keep hb)); (try replace X1 := Lib.hid (X1.out.keep hb)); (try replace xr1 := Lib.hid (xr1.out.keep hb)); (try replace xs1 := Lib.hid (xs1.out.kin (Kin.of hb))); (try replace xb1 := Lib.hid (ShareRow.keep xb1.out hb)); (try replace xq1 := Lib.hid (xq1.out.kin (Kin.of hb))); (try have hhi2 := Nat.le_trans hhi hb.size); (try clear hhi); (try have hhi := hhi2); (try clear hhi2)
      clear hb c0 c1 c2 c3 c4
      go_wp2_with fail
      refine wp_gen (fun W0 hW0 => ?_)
      have s0_ : Below w.heap.size w W0 := by rw [hW0]; exact k1.out
      have s1_ : Blk W0 w.heap.size 51 #[.string s, .int .i64 no, .int .i64 ma, .int .i64 fe, .slice A n c] := by rw [hW0]; exact B1.out
      have s2_ : W0.cell? ⟨w.heap.size, 0, none⟩ = some (.string s) := (s1_.cell 0).trans rfl
      have s3_ : W0.cell? ⟨w.heap.size, 1, none⟩ = some (.int .i64 no) := (s1_.cell 1).trans rfl
      have s4_ : W0.cell? ⟨w.heap.size, 2, none⟩ = some (.int .i64 ma) := (s1_.cell 2).trans rfl
      have s5_ : W0.cell? ⟨w.heap.size, 3, none⟩ = some (.int .i64 fe) := (s1_.cell 3).trans rfl
      have s6_ : W0.cell? ⟨w.heap.size, 4, none⟩ = some (.slice A n c) := (s1_.cell 4).trans rfl
      have s7_ : w.heap.size < W0.heap.size := by rw [hW0]; exact B1.out.lt
      clear k1 B1
      clear hW0
      refine wp_region_held_drew (S := fun w' => Below w.heap.size w w' ∧ Blk w' w.heap.size 51 #[.string s, .int .i64 no, .int .i64 ma, .int .i64 fe, .slice A n c] ∧ w'.cell? ⟨w.heap.size, 0, none⟩ = some (.string s) ∧ w'.cell? ⟨w.heap.size, 1, none⟩ = some (.int .i64 no) ∧ w'.cell? ⟨w.heap.size, 2, none⟩ = some (.int .i64 ma) ∧ w'.cell? ⟨w.heap.size, 3, none⟩ = some (.int .i64 fe) ∧ w'.cell? ⟨w.heap.size, 4, none⟩ = some (.slice A n c) ∧ w.heap.size < w'.heap.size) (by kernel_rfl) ?_ (fun hHeld => ?_)
      · exact ⟨s0_.drew, s1_, s2_, s3_, s4_, s5_, s6_, s7_⟩
      clear s0_ s1_ s2_ s3_ s4_ s5_ s6_ s7_
      refine take_yes (i := 0) (d := 28) (v := ?_) _ rfl rfl (by kernel_rfl) (by kernel_rfl) (by kernel_rfl) (fun _ _ _ _ h => h) (by rfl) ?_ (by assumption) ?_
      rotate_left 1
      · ((intro w hSw; (try dsimp only at hSw); go_simp) <;> (try with_reducible rfl))
      (try simp only [Act.put, List.setIfInBounds_toArray, List.set_cons_zero, List.set_cons_succ])
      refine take_yes (i := 2) (d := 30) (v := ?_) _ rfl rfl (by kernel_rfl) (by kernel_rfl) (by kernel_rfl) (fun _ _ _ _ h => h) (by rfl) ?_ (by assumption) ?_
      rotate_left 1
      · ((intro w hSw; (try dsimp only at hSw); go_simp) <;> (try with_reducible rfl))
      (try simp only [Act.put, List.setIfInBounds_toArray, List.set_cons_zero, List.set_cons_succ])
      (refine wpAnyH_ready (rs := [1]) (by kernel_rfl) (by simp) ?_; refine AllReadyH.cons rfl (fun K hK => ?_) AllReadyH.nil; go_simp; go_at_call 22; refine (toMeltS_calls _ _ _ _ _ (HM.out.keep (And.left hHeld)) HNM.out hm2).mono ?_; rintro e wd ⟨rfl, hb, -, hmc, -⟩; refine hK.out _ _ (by obtain ⟨x0_, x1_, x2_, x3_, x4_, x5_, x6_, x7_⟩ := hHeld; exact ⟨x0_.trans (hb.mono x0_.size), x1_.keep hb, cell_keep hb x2_, cell_keep hb x3_, cell_keep hb x4_, cell_keep hb x5_, cell_keep hb x6_, Nat.lt_of_lt_of_le x7_ hb.size⟩) (fun hHeld2 => ?_); (try replace hmc := hmc.keep hb); clear hK K hHeld hb; have hHeld := hHeld2; clear hHeld2; (try simp only [Act.put, List.setIfInBounds_toArray, List.set_cons_zero, List.set_cons_succ]))
      (refine wpAnyH_ready (rs := [3]) (by kernel_rfl) (by simp) ?_; refine AllReadyH.cons rfl (fun K hK => ?_) AllReadyH.nil; go_simp; go_at_call 34; refine (toBell_calls _ _ _ _ _ _ _ _ _ _ (ShareRow.keep HR.out (And.left hHeld)) hn2).mono ?_; rintro e wd ⟨GB, rfl, hb, gb1, gb2, hbc⟩; refine hK.out _ _ (by obtain ⟨x0_, x1_, x2_, x3_, x4_, x5_, x6_, x7_⟩ := hHeld; exact ⟨x0_.trans (hb.mono x0_.size), x1_.keep hb, cell_keep hb x2_, cell_keep hb x3_, cell_keep hb x4_, cell_keep hb x5_, cell_keep hb x6_, Nat.lt_of_lt_of_le x7_ hb.size⟩) (fun hHeld2 => ?_); (try replace hmc := hmc.keep hb); clear hK K hHeld hb; have hHeld := hHeld2; clear hHeld2; (try simp only [Act.put, List.setIfInBounds_toArray, List.set_cons_zero, List.set_cons_succ]))
      (refine wpAnyH_ready (rs := [4]) (by kernel_rfl) (by simp) ?_; refine AllReadyH.cons rfl (fun K hK => ?_) AllReadyH.nil; go_simp; go_at_call 46; refine (CS.out _ _ _ _ _ hmc hbc).mono ?_; rintro e wd ⟨v, rfl, Aw, cw, Gw, rfl, hio, hGw, hb⟩; refine hK.out _ _ (by obtain ⟨x0_, x1_, x2_, x3_, x4_, x5_, x6_, x7_⟩ := hHeld; exact ⟨x0_.trans (hb.mono x0_.size), x1_.keep hb, cell_keep hb x2_, cell_keep hb x3_, cell_keep hb x4_, cell_keep hb x5_, cell_keep hb x6_, Nat.lt_of_lt_of_le x7_ hb.size⟩) (fun hHeld2 => ?_); (try replace hmc := hmc.keep hb); clear hK K hHeld hb; have hHeld := hHeld2; clear hHeld2; (try simp only [Act.put, List.setIfInBounds_toArray, List.set_cons_zero, List.set_cons_succ]))
      refine take_yes (i := 5) (d := 27) (v := ?_) _ rfl rfl (by kernel_rfl) (by kernel_rfl) (by kernel_rfl) (fun _ _ _ _ h => h) (by rfl) ?_ (by assumption) ?_
      rotate_left 1
      · ((intro w hSw; (try dsimp only at hSw); go_simp) <;> (try with_reducible rfl))
      (try simp only [Act.put, List.setIfInBounds_toArray, List.set_cons_zero, List.set_cons_succ])
      refine take_yes (i := 6) (d := 33) (v := ?_) _ rfl rfl (by kernel_rfl) (by kernel_rfl) (by kernel_rfl) (fun _ _ _ _ h => h) (by rfl) ?_ (by assumption) ?_
      rotate_left 1
      · ((intro w hSw; (try dsimp only at hSw); go_simp) <;> (try with_reducible rfl))
      (try simp only [Act.put, List.setIfInBounds_toArray, List.set_cons_zero, List.set_cons_succ])
      refine take_yes (i := 7) (d := 34) (v := ?_) _ rfl rfl (by kernel_rfl) (by kernel_rfl) (by kernel_rfl) (fun _ _ _ _ h => h) (by rfl) ?_ (by assumption) ?_
      rotate_left 1
      · ((intro w hSw; (try dsimp only at hSw); go_simp) <;> (try with_reducible rfl))
      (try simp only [Act.put, List.setIfInBounds_toArray, List.set_cons_zero, List.set_cons_succ])
      refine take_yes (i := 8) (d := 6) (v := ?_) _ rfl rfl (by kernel_rfl) (by kernel_rfl) (by kernel_rfl) (fun _ _ _ _ h => h) (by rfl) ?_ (by assumption) ?_
      rotate_left 1
      · ((intro w hSw; (try dsimp only at hSw); go_simp) <;> (try with_reducible rfl))
      (try simp only [Act.put, List.setIfInBounds_toArray, List.set_cons_zero, List.set_cons_succ])
      refine take_yes (i := 9) (d := 7) (v := ?_) _ rfl rfl (by kernel_rfl) (by kernel_rfl) (by kernel_rfl) (fun _ _ _ _ h => h) (by rfl) ?_ (by assumption) ?_
      rotate_left 1
      · ((intro w hSw; (try dsimp only at hSw); go_simp) <;> (try with_reducible rfl))
      (try simp only [Act.put, List.setIfInBounds_toArray, List.set_cons_zero, List.set_cons_succ])
      refine wpAnyH_done (by kernel_rfl) ?_ _
      obtain ⟨z0, z1, z2, z3, z4, z5, z6, z7⟩ := hHeld
      have k1 := Lib.hid z0
      have B1 := Lib.hid z1
      have gw1 := Lib.hid hio
      have hGw2 := fun h0 => hio.lt h0
      clear z0 z1 z2 z3 z4 z5 z6 z7 hio hGw hmc hbc gb1 gb2
      go_wp2_with fail
      go_at_call 22
      refine (toMeltS_calls _ _ _ _ _ (HM.out.keep k1.out) HNM.out hm2).mono ?_
      rintro e w4 ⟨rfl, hb, -, hc, hx⟩
      obtain ⟨lo1, hlo1⟩ : ∃ lo : Nat, lo = wd.heap.size := ⟨_, rfl⟩
      have hlo : w.heap.size ≤ lo1 := by have := k1.out.size; omega
      have hloS : w.heap.size < lo1 := by have := B1.out.lt; omega
      have hlo4 : lo1 ≤ w4.heap.size := by have := hb.size; omega
      have hGw3 : ∀ h0 : 0 < L, Gw < lo1 := fun h0 => by have := hGw2 h0; omega
      rw [← hlo1] at hc hx
      replace k1 := Lib.hid (k1.out.trans (hb.mono k1.out.size)); (try replace B1 := Lib.hid (B1.out.keep hb)); (try replace gw1 := Lib.hid (gw1.out.keep hb)); (try replace gg1 := Lib.hid (gg1.out.keep hb)); (try replace X1 := Lib.hid (X1.out.keep hb)); (try replace xr1 := Lib.hid (xr1.out.keep hb)); (try replace xs1 := Lib.hid (xs1.out.kin (Kin.of hb))); (try replace xb1 := Lib.hid (ShareRow.keep xb1.out hb)); (try replace xq1 := Lib.hid (xq1.out.kin (Kin.of hb))); (try have hhi2 := Nat.le_trans hhi hb.size); (try clear hhi); (try have hhi := hhi2); (try clear hhi2)
      have xr1 := Lib.hid hc
      have xs1 := Lib.hid hx
      rw [← hlo1]
      clear hGw2 hb hc hx hlo1
      have hGw2 := hGw3
      clear hGw3
      have c0 := (B1.out.cell 0).trans rfl
      have c1 := (B1.out.cell 1).trans rfl
      have c2 := (B1.out.cell 2).trans rfl
      have c3 := (B1.out.cell 3).trans rfl
      have c4 := (B1.out.cell 4).trans rfl
      go_wp2_with fail
      go_at_call 34
      refine (toBell_own _ _ _ _ _ _ _ _ _ _ (ShareRow.keep HR.out k1.out) hn2).mono ?_
      rintro e w5 ⟨G2, rfl, hb, g1, g2, hco⟩
      have xs2 := Lib.hid (MeltShape.mono (xs1.out.kin (Kin.of hb)) (Nat.le_refl _) hb.size)
      have xq1 := Lib.hid (share_shape hco (show lo1 ≤ G2 by omega) g2)
      have xb1 := Lib.hid hco.row
      have hlo5 : lo1 ≤ w5.heap.size := by have := hb.size; omega
      clear xs1 hco
      replace k1 := Lib.hid (k1.out.trans (hb.mono k1.out.size)); (try replace B1 := Lib.hid (B1.out.keep hb)); (try replace gw1 := Lib.hid (gw1.out.keep hb)); (try replace gg1 := Lib.hid (gg1.out.keep hb)); (try replace X1 := Lib.hid (X1.out.keep hb)); (try replace xr1 := Lib.hid (xr1.out.keep hb)); (try replace xs1 := Lib.hid (xs1.out.kin (Kin.of hb))); (try replace xb1 := Lib.hid (ShareRow.keep xb1.out hb)); (try replace xq1 := Lib.hid (xq1.out.kin (Kin.of hb))); (try have hhi2 := Nat.le_trans hhi hb.size); (try clear hhi); (try have hhi := hhi2); (try clear hhi2)
      have xs1 := xs2
      clear hb xs2 g1 g2 c0 c1 c2 c3 c4
      obtain ⟨hi1, hhi1⟩ : ∃ hi : Nat, hi = w5.heap.size := ⟨_, rfl⟩
      rw [← hhi1] at xs1 xq1
      have hlohi : lo1 ≤ hi1 := by omega
      have hhi : hi1 ≤ w5.heap.size := by omega
      clear hhi1 hlo4 hlo5
      go_wp2_with fail
      go_at_call 47
      have X1 := Lib.hid (Blk.new w5 62 #[.string s, .int .i64 no, .int .i64 ma, .int .i64 fe, .slice (some ⟨G2, 0, none⟩) n n])
      have hb := (Below.refl w5.heap.size w5).alloc (Nat.le_refl _) (.cells #[.string s, .int .i64 no, .int .i64 ma, .int .i64 fe, .slice (some ⟨G2, 0, none⟩) n n] 62)
      have hXb : w.heap.size < w5.heap.size := B1.out.lt
      replace k1 := Lib.hid (k1.out.trans (hb.mono k1.out.size)); (try replace B1 := Lib.hid (B1.out.keep hb)); (try replace gw1 := Lib.hid (gw1.out.keep hb)); (try replace gg1 := Lib.hid (gg1.out.keep hb))
      replace xr1 := Lib.hid (xr1.out.keep hb)
      replace xs1 := Lib.hid (xs1.out.kin (Kin.of hb))
      replace xb1 := Lib.hid (ShareRow.keep xb1.out hb)
      replace xq1 := Lib.hid (xq1.out.kin (Kin.of hb))
      have hhi2 := Nat.le_trans hhi hb.size
      obtain ⟨gx, hgx⟩ : ∃ gx, gx = w5.heap.size := ⟨_, rfl⟩
      have hgxhi : hi1 ≤ gx := by omega
      have hgxw : gx < (w5.alloc (.cells #[.string s, .int .i64 no, .int .i64 ma, .int .i64 fe, .slice (some ⟨G2, 0, none⟩) n n] 62)).heap.size := by rw [hgx]; simp
      have hwgx : w.heap.size < gx := by omega
      rw [← hgx] at X1 ⊢
      clear hb hhi hgx hXb
      have hhi := hhi2
      clear hhi2
      generalize w5.alloc (.cells #[.string s, .int .i64 no, .int .i64 ma, .int .i64 fe, .slice (some ⟨G2, 0, none⟩) n n] 62) = w6 at *
      refine (CI.out _ _ _ _ _ (Nat.le_refl _) xr1.out xb1.out).mono ?_
      rintro e w7 ⟨v, rfl, Ag, cg, Gg0, rfl, hio, hGg0, hb⟩
      obtain ⟨Gg, hGg, hGgx, hio⟩ : ∃ G, hi1 ≤ G ∧ gx < G ∧ StrOwn w7 Ag L S G := ⟨Gg0, Nat.le_trans hhi hGg0, Nat.lt_of_lt_of_le hgxw hGg0, hio⟩
      replace k1 := Lib.hid (k1.out.trans (hb.mono k1.out.size)); (try replace B1 := Lib.hid (B1.out.keep hb)); (try replace gw1 := Lib.hid (gw1.out.keep hb)); (try replace gg1 := Lib.hid (gg1.out.keep hb)); (try replace X1 := Lib.hid (X1.out.keep hb)); (try replace xr1 := Lib.hid (xr1.out.keep hb)); (try replace xs1 := Lib.hid (xs1.out.kin (Kin.of hb))); (try replace xb1 := Lib.hid (ShareRow.keep xb1.out hb)); (try replace xq1 := Lib.hid (xq1.out.kin (Kin.of hb))); (try have hhi2 := Nat.le_trans hhi hb.size); (try clear hhi); (try have hhi := hhi2); (try clear hhi2)
      have gg1 := Lib.hid hio
      clear hb hio hGg0 hgxw
      go_wp2_with fail
      go_at_call 15
      refine (eqStringS_calls _ _ L _ _ S _ gg1.out.row gw1.out.row hLL).mono ?_
      rintro e w8 ⟨rfl, hb⟩
      replace k1 := Lib.hid (k1.out.trans (hb.mono k1.out.size)); (try replace B1 := Lib.hid (B1.out.keep hb)); (try replace gw1 := Lib.hid (gw1.out.keep hb)); (try replace gg1 := Lib.hid (gg1.out.keep hb)); (try replace X1 := Lib.hid (X1.out.keep hb)); (try replace xr1 := Lib.hid (xr1.out.keep hb)); (try replace xs1 := Lib.hid (xs1.out.kin (Kin.of hb))); (try replace xb1 := Lib.hid (ShareRow.keep xb1.out hb)); (try replace xq1 := Lib.hid (xq1.out.kin (Kin.of hb))); (try have hhi2 := Nat.le_trans hhi hb.size); (try clear hhi); (try have hhi := hhi2); (try clear hhi2)
      clear hb
      go_wp2_with fail
      go_at_call 22
      refine (toMeltS_calls _ _ _ _ _ (HM.out.keep k1.out) HNM.out hm2).mono ?_
      rintro e w9 ⟨rfl, hb, -, hc, -⟩
      have hx2 := Lib.hid hc
      replace k1 := Lib.hid (k1.out.trans (hb.mono k1.out.size)); (try replace B1 := Lib.hid (B1.out.keep hb)); (try replace gw1 := Lib.hid (gw1.out.keep hb)); (try replace gg1 := Lib.hid (gg1.out.keep hb)); (try replace X1 := Lib.hid (X1.out.keep hb)); (try replace xr1 := Lib.hid (xr1.out.keep hb)); (try replace xs1 := Lib.hid (xs1.out.kin (Kin.of hb))); (try replace xb1 := Lib.hid (ShareRow.keep xb1.out hb)); (try replace xq1 := Lib.hid (xq1.out.kin (Kin.of hb))); (try have hhi2 := Nat.le_trans hhi hb.size); (try clear hhi); (try have hhi := hhi2); (try clear hhi2)
      clear hb hc
      go_wp2_with fail
      go_at_call 24
      refine (eqMeltS_calls _ _ _ _ _ _ _ xr1.out hx2.out HNM.out hm2).mono ?_
      rintro e w10 ⟨rfl, hb⟩
      replace k1 := Lib.hid (k1.out.trans (hb.mono k1.out.size)); (try replace B1 := Lib.hid (B1.out.keep hb)); (try replace gw1 := Lib.hid (gw1.out.keep hb)); (try replace gg1 := Lib.hid (gg1.out.keep hb)); (try replace X1 := Lib.hid (X1.out.keep hb)); (try replace xr1 := Lib.hid (xr1.out.keep hb)); (try replace xs1 := Lib.hid (xs1.out.kin (Kin.of hb))); (try replace xb1 := Lib.hid (ShareRow.keep xb1.out hb)); (try replace xq1 := Lib.hid (xq1.out.kin (Kin.of hb))); (try have hhi2 := Nat.le_trans hhi hb.size); (try clear hhi); (try have hhi := hhi2); (try clear hhi2)
      clear hb hx2 xr1
      go_wp2_with fail
      refine wp_gen (fun W0 hW0 => ?_)
      have s0_ : Below w.heap.size w W0 := by rw [hW0]; exact k1.out
      have s1_ : Blk W0 w.heap.size 51 #[.string s, .int .i64 no, .int .i64 ma, .int .i64 fe, .slice A n c] := by rw [hW0]; exact B1.out
      have s2_ : W0.cell? ⟨w.heap.size, 0, none⟩ = some (.string s) := (s1_.cell 0).trans rfl
      have s3_ : W0.cell? ⟨w.heap.size, 1, none⟩ = some (.int .i64 no) := (s1_.cell 1).trans rfl
      have s4_ : W0.cell? ⟨w.heap.size, 2, none⟩ = some (.int .i64 ma) := (s1_.cell 2).trans rfl
      have s5_ : W0.cell? ⟨w.heap.size, 3, none⟩ = some (.int .i64 fe) := (s1_.cell 3).trans rfl
      have s6_ : W0.cell? ⟨w.heap.size, 4, none⟩ = some (.slice A n c) := (s1_.cell 4).trans rfl
      have s7_ : w.heap.size < W0.heap.size := by rw [hW0]; exact B1.out.lt
      have s8_ : Blk W0 gx 62 #[.string s, .int .i64 no, .int .i64 ma, .int .i64 fe, .slice (some ⟨G2, 0, none⟩) n n] := by rw [hW0]; exact X1.out
      have s9_ : StrOwn W0 Aw L S Gw := by rw [hW0]; exact gw1.out
      have s10_ : StrOwn W0 Ag L S Gg := by rw [hW0]; exact gg1.out
      have s11_ : ShareRow W0 (some ⟨G2, 0, none⟩) n ss ms := by rw [hW0]; exact xb1.out
      have s12_ : W0.cell? ⟨gx, 0, none⟩ = some (.string s) := (s8_.cell 0).trans rfl
      have s13_ : W0.cell? ⟨gx, 1, none⟩ = some (.int .i64 no) := (s8_.cell 1).trans rfl
      have s14_ : W0.cell? ⟨gx, 2, none⟩ = some (.int .i64 ma) := (s8_.cell 2).trans rfl
      have s15_ : W0.cell? ⟨gx, 3, none⟩ = some (.int .i64 fe) := (s8_.cell 3).trans rfl
      have s16_ : W0.cell? ⟨gx, 4, none⟩ = some (.slice (some ⟨G2, 0, none⟩) n n) := (s8_.cell 4).trans rfl
      have s17_ : MeltShape W0 (some ⟨lo1, 0, none⟩) m (fun i => (g i).n) lo1 hi1 := by rw [hW0]; exact xs1.out
      have s18_ : ShareShape W0 (some ⟨G2, 0, none⟩) n lo1 hi1 := by rw [hW0]; exact xq1.out
      have s19_ : hi1 ≤ W0.heap.size := by rw [hW0]; exact hhi
      clear k1 B1 X1 gw1 gg1 xb1 xs1 xq1 hhi
      clear hW0
      refine wp_region_held_drew (S := fun w' => Below w.heap.size w w' ∧ Blk w' w.heap.size 51 #[.string s, .int .i64 no, .int .i64 ma, .int .i64 fe, .slice A n c] ∧ w'.cell? ⟨w.heap.size, 0, none⟩ = some (.string s) ∧ w'.cell? ⟨w.heap.size, 1, none⟩ = some (.int .i64 no) ∧ w'.cell? ⟨w.heap.size, 2, none⟩ = some (.int .i64 ma) ∧ w'.cell? ⟨w.heap.size, 3, none⟩ = some (.int .i64 fe) ∧ w'.cell? ⟨w.heap.size, 4, none⟩ = some (.slice A n c) ∧ w.heap.size < w'.heap.size ∧ Blk w' gx 62 #[.string s, .int .i64 no, .int .i64 ma, .int .i64 fe, .slice (some ⟨G2, 0, none⟩) n n] ∧ StrOwn w' Aw L S Gw ∧ StrOwn w' Ag L S Gg ∧ ShareRow w' (some ⟨G2, 0, none⟩) n ss ms ∧ w'.cell? ⟨gx, 0, none⟩ = some (.string s) ∧ w'.cell? ⟨gx, 1, none⟩ = some (.int .i64 no) ∧ w'.cell? ⟨gx, 2, none⟩ = some (.int .i64 ma) ∧ w'.cell? ⟨gx, 3, none⟩ = some (.int .i64 fe) ∧ w'.cell? ⟨gx, 4, none⟩ = some (.slice (some ⟨G2, 0, none⟩) n n) ∧ MeltShape w' (some ⟨lo1, 0, none⟩) m (fun i => (g i).n) lo1 hi1 ∧ ShareShape w' (some ⟨G2, 0, none⟩) n lo1 hi1 ∧ hi1 ≤ w'.heap.size) (by kernel_rfl) ?_ (fun hHeld => ?_)
      · exact ⟨s0_.drew, s1_, s2_, s3_, s4_, s5_, s6_, s7_, s8_, s9_, s10_, s11_, s12_, s13_, s14_, s15_, s16_, s17_, s18_, s19_⟩
      clear s0_ s1_ s2_ s3_ s4_ s5_ s6_ s7_ s8_ s9_ s10_ s11_ s12_ s13_ s14_ s15_ s16_ s17_ s18_ s19_
      refine take_yes (i := 0) (d := 59) (v := ?_) _ rfl rfl (by kernel_rfl) (by kernel_rfl) (by kernel_rfl) (fun _ _ _ _ h => h) (by rfl) ?_ (by assumption) ?_
      rotate_left 1
      · ((intro w hSw; (try dsimp only at hSw); go_simp) <;> (try with_reducible rfl))
      (try simp only [Act.put, List.setIfInBounds_toArray, List.set_cons_zero, List.set_cons_succ])
      refine take_yes (i := 1) (d := 60) (v := ?_) _ rfl rfl (by kernel_rfl) (by kernel_rfl) (by kernel_rfl) (fun _ _ _ _ h => h) (by rfl) ?_ (by assumption) ?_
      rotate_left 1
      · ((intro w hSw; (try dsimp only at hSw); go_simp) <;> (try with_reducible rfl))
      (try simp only [Act.put, List.setIfInBounds_toArray, List.set_cons_zero, List.set_cons_succ])
      (refine wpAnyH_ready (rs := [2]) (by kernel_rfl) (by simp) ?_; refine AllReadyH.cons rfl (fun K hK => ?_) AllReadyH.nil; go_simp; go_at_call 34; refine (toBell_calls _ _ _ _ _ _ _ _ _ _ (ShareRow.keep HR.out (And.left hHeld)) hn2).mono ?_; rintro e wd ⟨GB, rfl, hb, gb1, gb2, hbc⟩; refine hK.out _ _ (by obtain ⟨x0_, x1_, x2_, x3_, x4_, x5_, x6_, x7_, x8_, x9_, x10_, x11_, x12_, x13_, x14_, x15_, x16_, x17_, x18_, x19_⟩ := hHeld; exact ⟨x0_.trans (hb.mono x0_.size), x1_.keep hb, cell_keep hb x2_, cell_keep hb x3_, cell_keep hb x4_, cell_keep hb x5_, cell_keep hb x6_, Nat.lt_of_lt_of_le x7_ hb.size, x8_.keep hb, x9_.keep hb, x10_.keep hb, x11_.keep hb, cell_keep hb x12_, cell_keep hb x13_, cell_keep hb x14_, cell_keep hb x15_, cell_keep hb x16_, x17_.kin (Kin.of hb), x18_.kin (Kin.of hb), Nat.le_trans x19_ hb.size⟩) (fun hHeld2 => ?_); clear hK K hHeld hb; have hHeld := hHeld2; clear hHeld2; (try simp only [Act.put, List.setIfInBounds_toArray, List.set_cons_zero, List.set_cons_succ]))
      (refine wpAnyH_ready (rs := [3]) (by kernel_rfl) (by simp) ?_; refine AllReadyH.cons rfl (fun K hK => ?_) AllReadyH.nil; go_simp; go_at_call 38; refine (eqBell_calls _ _ _ _ _ _ _ _ _ _ _ _ hHeld.2.2.2.2.2.2.2.2.2.2.2.1 hbc hn2).mono ?_; rintro e wd ⟨rfl, hb⟩; refine hK.out _ _ (by obtain ⟨x0_, x1_, x2_, x3_, x4_, x5_, x6_, x7_, x8_, x9_, x10_, x11_, x12_, x13_, x14_, x15_, x16_, x17_, x18_, x19_⟩ := hHeld; exact ⟨x0_.trans (hb.mono x0_.size), x1_.keep hb, cell_keep hb x2_, cell_keep hb x3_, cell_keep hb x4_, cell_keep hb x5_, cell_keep hb x6_, Nat.lt_of_lt_of_le x7_ hb.size, x8_.keep hb, x9_.keep hb, x10_.keep hb, x11_.keep hb, cell_keep hb x12_, cell_keep hb x13_, cell_keep hb x14_, cell_keep hb x15_, cell_keep hb x16_, x17_.kin (Kin.of hb), x18_.kin (Kin.of hb), Nat.le_trans x19_ hb.size⟩) (fun hHeld2 => ?_); clear hK K hHeld hb; have hHeld := hHeld2; clear hHeld2; (try simp only [Act.put, List.setIfInBounds_toArray, List.set_cons_zero, List.set_cons_succ]))
      refine take_yes (i := 4) (d := 63) (v := ?_) _ rfl rfl (by kernel_rfl) (by kernel_rfl) (by kernel_rfl) (fun _ _ _ _ h => h) (by rfl) ?_ (by assumption) ?_
      rotate_left 1
      · ((intro w hSw; (try dsimp only at hSw); go_simp) <;> (try with_reducible rfl))
      (try simp only [Act.put, List.setIfInBounds_toArray, List.set_cons_zero, List.set_cons_succ])
      refine wpAnyH_done (by kernel_rfl) ?_ _
      obtain ⟨z0, z1, z2, z3, z4, z5, z6, z7, z8, z9, z10, z11, z12, z13, z14, z15, z16, z17, z18, z19⟩ := hHeld
      have k1 := Lib.hid z0
      have B1 := Lib.hid z1
      have X1 := Lib.hid z8
      have gw1 := Lib.hid z9
      have gg1 := Lib.hid z10
      have xs1 := Lib.hid z17
      have xq1 := Lib.hid z18
      have hhi := z19
      clear z0 z1 z2 z3 z4 z5 z6 z7 z8 z9 z10 z11 z12 z13 z14 z15 z16 z17 z18 z19 hbc gb1 gb2
      go_wp2_with fail
      go_at_call 43
      refine (markMeltS_kin _ m _ lo1 hi1 1 _ _ xs1.out hhi hsumM (by omega) (by omega)).mono ?_
      rintro e w12 ⟨rfl, hg⟩
      have hlo2 := Nat.le_trans hlohi hhi
      have hbl := hg.below hlo2
      replace k1 := Lib.hid (k1.out.trans (hbl.mono hlo))
      replace B1 : Hid (Blk _ w.heap.size 51 #[.string s, .int .i64 no, .int .i64 ma, .int .i64 fe, .slice A n c]) := Lib.hid ((hg.far _ B1.out.lt (by omega)).trans B1.out)
      replace X1 : Hid (Blk _ gx 62 #[.string s, .int .i64 no, .int .i64 ma, .int .i64 fe, .slice (some ⟨G2, 0, none⟩) n n]) := Lib.hid ((hg.far _ X1.out.lt (by omega)).trans X1.out)
      replace gw1 := Lib.hid (gw1.out.same (fun h => hg.far _ (Nat.lt_of_lt_of_le (hGw2 h) hlo2) (by have := hGw2 h; omega)))
      replace gg1 := Lib.hid (gg1.out.same (fun h => hg.far _ (gg1.out.lt h) (by omega)))
      have hhi2 := Nat.le_trans hhi hg.size
      have xq2 := Lib.hid (xq1.out.kin hg)
      clear xq1 xs1 hhi hg hbl hlo2
      have hhi := hhi2
      have xq1 := xq2
      clear hhi2 xq2
      obtain ⟨M, hM⟩ : ∃ M : Nat, M = 1 + 2 * m + sumN (fun i => (g i).n) m := ⟨_, rfl⟩
      rw [← hM]
      have hMb : M ≤ 8000000 := by omega
      have hMa : 1 ≤ M := by omega
      clear hM
      have d0 := (X1.out.cell 0).trans rfl
      have d1 := (X1.out.cell 1).trans rfl
      have d2 := (X1.out.cell 2).trans rfl
      have d3 := (X1.out.cell 3).trans rfl
      have d4 := (X1.out.cell 4).trans rfl
      go_wp2_with fail
      go_at_call 44
      refine (markBell_kin s no ma fe _ n n lo1 hi1 M _ xq1.out hhi hn2 hMa (by omega)).mono ?_
      rintro e w13 ⟨rfl, hg⟩
      clear d0 d1 d2 d3 d4
      have hlo2 := Nat.le_trans hlohi hhi
      have hbl := hg.below hlo2
      replace k1 := Lib.hid (k1.out.trans (hbl.mono hlo))
      replace B1 : Hid (Blk _ w.heap.size 51 #[.string s, .int .i64 no, .int .i64 ma, .int .i64 fe, .slice A n c]) := Lib.hid ((hg.far _ B1.out.lt (by omega)).trans B1.out)
      replace X1 : Hid (Blk _ gx 62 #[.string s, .int .i64 no, .int .i64 ma, .int .i64 fe, .slice (some ⟨G2, 0, none⟩) n n]) := Lib.hid ((hg.far _ X1.out.lt (by omega)).trans X1.out)
      replace gw1 := Lib.hid (gw1.out.same (fun h => hg.far _ (Nat.lt_of_lt_of_le (hGw2 h) hlo2) (by have := hGw2 h; omega)))
      replace gg1 := Lib.hid (gg1.out.same (fun h => hg.far _ (gg1.out.lt h) (by omega)))
      have hhi2 := Nat.le_trans hhi hg.size
      clear xq1 hhi hg hbl hlo2 X1 hhi2
      obtain ⟨M2, hM2⟩ : ∃ M2 : Nat, M2 = M + 2 * n := ⟨_, rfl⟩
      rw [← hM2]
      have hMb2 : M2 ≤ 20000000 := by omega
      clear hM2
      go_wp2_with fail
      go_at_call 15
      refine (eqStringS_calls _ _ L _ _ S _ gg1.out.row gw1.out.row hLL).mono ?_
      rintro e w14 ⟨rfl, hb⟩
      replace k1 := Lib.hid (k1.out.trans (hb.mono k1.out.size)); (try replace B1 := Lib.hid (B1.out.keep hb)); (try replace gw1 := Lib.hid (gw1.out.keep hb)); (try replace gg1 := Lib.hid (gg1.out.keep hb))
      clear hb
      go_wp2_with fail
      go_at_call 18
      refine (markStringS_calls _ L _ Gg S 1 _ gg1.out hLL (by omega) (by omega)).mono ?_
      rintro e w15 ⟨rfl, hm1, hg⟩
      replace k1 := Lib.hid (k1.out.grown hg k1.out.size (fun k hk => by cases hk; omega))
      replace B1 : Hid (Blk _ w.heap.size 51 #[.string s, .int .i64 no, .int .i64 ma, .int .i64 fe, .slice A n c]) := Lib.hid ((hg.block _ B1.out.lt (fun e => by have := Option.some.inj e; omega)).trans B1.out)
      replace gw1 := Lib.hid (gw1.out.grown hg (fun h => by have := hGw2 h; omega))
      clear gg1
      have gg1 := Lib.hid hm1
      obtain ⟨M3, hM3⟩ : ∃ M : Nat, M = 1 + L := ⟨_, rfl⟩
      rw [← hM3]
      have HM3 := Lib.hid hM3
      have hMb3 : M3 ≤ 4000000 := by omega
      clear hM3 hg hm1
      go_wp2_with fail
      go_at_call 19
      refine (heldStringS_calls _ L _ 1 _ gg1.out.row hLL (by omega) (by omega)).mono ?_
      rintro e w16 ⟨rfl, hb⟩
      rw [← HM3.out]
      replace k1 := Lib.hid (k1.out.trans (hb.mono k1.out.size)); (try replace B1 := Lib.hid (B1.out.keep hb)); (try replace gw1 := Lib.hid (gw1.out.keep hb)); (try replace gg1 := Lib.hid (gg1.out.keep hb))
      clear hb
      go_wp2_with fail
      refine wp_gen (fun W0 hW0 => ?_)
      have s0_ : Below w.heap.size w W0 := by rw [hW0]; exact k1.out
      have s1_ : Blk W0 w.heap.size 51 #[.string s, .int .i64 no, .int .i64 ma, .int .i64 fe, .slice A n c] := by rw [hW0]; exact B1.out
      have s2_ : W0.cell? ⟨w.heap.size, 0, none⟩ = some (.string s) := (s1_.cell 0).trans rfl
      have s3_ : W0.cell? ⟨w.heap.size, 1, none⟩ = some (.int .i64 no) := (s1_.cell 1).trans rfl
      have s4_ : W0.cell? ⟨w.heap.size, 2, none⟩ = some (.int .i64 ma) := (s1_.cell 2).trans rfl
      have s5_ : W0.cell? ⟨w.heap.size, 3, none⟩ = some (.int .i64 fe) := (s1_.cell 3).trans rfl
      have s6_ : W0.cell? ⟨w.heap.size, 4, none⟩ = some (.slice A n c) := (s1_.cell 4).trans rfl
      have s7_ : w.heap.size < W0.heap.size := by rw [hW0]; exact B1.out.lt
      have s8_ : StrOwn W0 Aw L S Gw := by rw [hW0]; exact gw1.out
      have s9_ : StrOwn W0 Ag L (mkS 1) Gg := by rw [hW0]; exact gg1.out
      clear k1 B1 gw1 gg1
      clear hW0
      refine wp_region_held_drew (S := fun w' => Below w.heap.size w w' ∧ Blk w' w.heap.size 51 #[.string s, .int .i64 no, .int .i64 ma, .int .i64 fe, .slice A n c] ∧ w'.cell? ⟨w.heap.size, 0, none⟩ = some (.string s) ∧ w'.cell? ⟨w.heap.size, 1, none⟩ = some (.int .i64 no) ∧ w'.cell? ⟨w.heap.size, 2, none⟩ = some (.int .i64 ma) ∧ w'.cell? ⟨w.heap.size, 3, none⟩ = some (.int .i64 fe) ∧ w'.cell? ⟨w.heap.size, 4, none⟩ = some (.slice A n c) ∧ w.heap.size < w'.heap.size ∧ StrOwn w' Aw L S Gw ∧ StrOwn w' Ag L (mkS 1) Gg) (by kernel_rfl) ?_ (fun hHeld => ?_)
      · exact ⟨s0_.drew, s1_, s2_, s3_, s4_, s5_, s6_, s7_, s8_, s9_⟩
      clear s0_ s1_ s2_ s3_ s4_ s5_ s6_ s7_ s8_ s9_
      refine take_yes (i := 0) (d := 95) (v := ?_) _ rfl rfl (by kernel_rfl) (by kernel_rfl) (by kernel_rfl) (fun _ _ _ _ h => h) (by rfl) ?_ (by assumption) ?_
      rotate_left 1
      · ((intro w hSw; (try dsimp only at hSw); go_simp) <;> (try with_reducible rfl))
      (try simp only [Act.put, List.setIfInBounds_toArray, List.set_cons_zero, List.set_cons_succ])
      refine take_yes (i := 2) (d := 97) (v := ?_) _ rfl rfl (by kernel_rfl) (by kernel_rfl) (by kernel_rfl) (fun _ _ _ _ h => h) (by rfl) ?_ (by assumption) ?_
      rotate_left 1
      · ((intro w hSw; (try dsimp only at hSw); go_simp) <;> (try with_reducible rfl))
      (try simp only [Act.put, List.setIfInBounds_toArray, List.set_cons_zero, List.set_cons_succ])
      (refine wpAnyH_ready (rs := [1]) (by kernel_rfl) (by simp) ?_; refine AllReadyH.cons rfl (fun K hK => ?_) AllReadyH.nil; go_simp; go_at_call 22; refine (toMeltS_calls _ _ _ _ _ (HM.out.keep (And.left hHeld)) HNM.out hm2).mono ?_; rintro e wd ⟨rfl, hb, -, hmc, -⟩; refine hK.out _ _ (by obtain ⟨x0_, x1_, x2_, x3_, x4_, x5_, x6_, x7_, x8_, x9_⟩ := hHeld; exact ⟨x0_.trans (hb.mono x0_.size), x1_.keep hb, cell_keep hb x2_, cell_keep hb x3_, cell_keep hb x4_, cell_keep hb x5_, cell_keep hb x6_, Nat.lt_of_lt_of_le x7_ hb.size, x8_.keep hb, x9_.keep hb⟩) (fun hHeld2 => ?_); (try replace hmc := hmc.keep hb); clear hK K hHeld hb; have hHeld := hHeld2; clear hHeld2; (try simp only [Act.put, List.setIfInBounds_toArray, List.set_cons_zero, List.set_cons_succ]))
      (refine wpAnyH_ready (rs := [3]) (by kernel_rfl) (by simp) ?_; refine AllReadyH.cons rfl (fun K hK => ?_) AllReadyH.nil; go_simp; go_at_call 34; refine (toBell_calls _ _ _ _ _ _ _ _ _ _ (ShareRow.keep HR.out (And.left hHeld)) hn2).mono ?_; rintro e wd ⟨GB, rfl, hb, gb1, gb2, hbc⟩; refine hK.out _ _ (by obtain ⟨x0_, x1_, x2_, x3_, x4_, x5_, x6_, x7_, x8_, x9_⟩ := hHeld; exact ⟨x0_.trans (hb.mono x0_.size), x1_.keep hb, cell_keep hb x2_, cell_keep hb x3_, cell_keep hb x4_, cell_keep hb x5_, cell_keep hb x6_, Nat.lt_of_lt_of_le x7_ hb.size, x8_.keep hb, x9_.keep hb⟩) (fun hHeld2 => ?_); (try replace hmc := hmc.keep hb); clear hK K hHeld hb; have hHeld := hHeld2; clear hHeld2; (try simp only [Act.put, List.setIfInBounds_toArray, List.set_cons_zero, List.set_cons_succ]))
      (refine wpAnyH_ready (rs := [4]) (by kernel_rfl) (by simp) ?_; refine AllReadyH.cons rfl (fun K hK => ?_) AllReadyH.nil; go_simp; go_at_call 47; refine (CI.out _ _ _ _ _ (Nat.le_refl _) hmc hbc).mono ?_; rintro e wd ⟨v, rfl, Ah, ch, Gh, rfl, hio, hGh, hb⟩; refine hK.out _ _ (by obtain ⟨x0_, x1_, x2_, x3_, x4_, x5_, x6_, x7_, x8_, x9_⟩ := hHeld; exact ⟨x0_.trans (hb.mono x0_.size), x1_.keep hb, cell_keep hb x2_, cell_keep hb x3_, cell_keep hb x4_, cell_keep hb x5_, cell_keep hb x6_, Nat.lt_of_lt_of_le x7_ hb.size, x8_.keep hb, x9_.keep hb⟩) (fun hHeld2 => ?_); (try replace hmc := hmc.keep hb); clear hK K hHeld hb; have hHeld := hHeld2; clear hHeld2; (try simp only [Act.put, List.setIfInBounds_toArray, List.set_cons_zero, List.set_cons_succ]))
      refine take_yes (i := 5) (d := 94) (v := ?_) _ rfl rfl (by kernel_rfl) (by kernel_rfl) (by kernel_rfl) (fun _ _ _ _ h => h) (by rfl) ?_ (by assumption) ?_
      rotate_left 1
      · ((intro w hSw; (try dsimp only at hSw); go_simp) <;> (try with_reducible rfl))
      (try simp only [Act.put, List.setIfInBounds_toArray, List.set_cons_zero, List.set_cons_succ])
      refine take_yes (i := 6) (d := 100) (v := ?_) _ rfl rfl (by kernel_rfl) (by kernel_rfl) (by kernel_rfl) (fun _ _ _ _ h => h) (by rfl) ?_ (by assumption) ?_
      rotate_left 1
      · ((intro w hSw; (try dsimp only at hSw); go_simp) <;> (try with_reducible rfl))
      (try simp only [Act.put, List.setIfInBounds_toArray, List.set_cons_zero, List.set_cons_succ])
      refine take_yes (i := 7) (d := 101) (v := ?_) _ rfl rfl (by kernel_rfl) (by kernel_rfl) (by kernel_rfl) (fun _ _ _ _ h => h) (by rfl) ?_ (by assumption) ?_
      rotate_left 1
      · ((intro w hSw; (try dsimp only at hSw); go_simp) <;> (try with_reducible rfl))
      (try simp only [Act.put, List.setIfInBounds_toArray, List.set_cons_zero, List.set_cons_succ])
      refine take_yes (i := 8) (d := 15) (v := ?_) _ rfl rfl (by kernel_rfl) (by kernel_rfl) (by kernel_rfl) (fun _ _ _ _ h => h) (by rfl) ?_ (by assumption) ?_
      rotate_left 1
      · ((intro w hSw; (try dsimp only at hSw); go_simp) <;> (try with_reducible rfl))
      (try simp only [Act.put, List.setIfInBounds_toArray, List.set_cons_zero, List.set_cons_succ])
      refine take_yes (i := 9) (d := 16) (v := ?_) _ rfl rfl (by kernel_rfl) (by kernel_rfl) (by kernel_rfl) (fun _ _ _ _ h => h) (by rfl) ?_ (by assumption) ?_
      rotate_left 1
      · ((intro w hSw; (try dsimp only at hSw); go_simp) <;> (try with_reducible rfl))
      (try simp only [Act.put, List.setIfInBounds_toArray, List.set_cons_zero, List.set_cons_succ])
      refine wpAnyH_done (by kernel_rfl) ?_ _
      obtain ⟨z0, z1, z2, z3, z4, z5, z6, z7, z8, z9⟩ := hHeld
      have k1 := Lib.hid z0
      have gw1 := Lib.hid z8
      have gg1 := Lib.hid z9
      have gh1 := Lib.hid hio
      clear z0 z1 z2 z3 z4 z5 z6 z7 z8 z9 hio hmc hbc gb1 gb2 CI hGh
      go_wp2_with fail
      go_at_call 15
      refine (eqStringS_calls _ _ L _ _ S _ gh1.out.row gw1.out.row hLL).mono ?_
      rintro e w18 ⟨rfl, hb⟩
      replace k1 := Lib.hid (k1.out.trans (hb.mono k1.out.size)); (try replace B1 := Lib.hid (B1.out.keep hb)); (try replace gw1 := Lib.hid (gw1.out.keep hb)); (try replace gg1 := Lib.hid (gg1.out.keep hb))
      clear hb gh1
      go_wp2_with fail
      go_at_call 19
      refine (heldStringS_calls _ L _ 1 _ gg1.out.row hLL (by omega) (by omega)).mono ?_
      rintro e w19 ⟨rfl, hb⟩
      rw [← HM3.out]
      replace k1 := Lib.hid (k1.out.trans (hb.mono k1.out.size)); (try replace B1 := Lib.hid (B1.out.keep hb)); (try replace gw1 := Lib.hid (gw1.out.keep hb)); (try replace gg1 := Lib.hid (gg1.out.keep hb))
      clear hb
      go_wp2
      go_ret
      exact ⟨rfl, k1.out⟩
theorem own : ownKnob Try.prog.godebug = none := by kernel_rfl
theorem laidOut : laidOutB Try.prog = true := by kernel_rfl
set_option maxRecDepth 100000 in
theorem lifted (os : Os) (started : os.Started) (H : Type) (enc : TypeId × Value → H) :
    ReturnsInHanded {} Try.checked os 9 .any (Rows.fnExactIngotsOfSpec.pre6 enc Try.prog Try.f9 Rows.fnExactIngotsOfRow.domain false) (Rows.fnExactIngotsOfSpec.post enc Try.prog Try.f9 false true false false) := by
  refine returnsInHanded_of_change (C := Try.checked) own started (by kernel_rfl) Try.func9
    (ChangeSpec.witness6 (enc := enc) (C := Try.checked) false ⟨#[], #[.slice none 0 0, .agg #[.string ⟨#[]⟩, .int .i64 0, .int .i64 0, .int .i64 0, .slice none 0 0]], []⟩ 8 (by kernel_rfl) (by kernel_rfl) (by kernel_rfl) (by kernel_rfl)) ?_
  intro W base args ds gs before hval0 hW hcnd _
  have hval : ∀ (j : Nat) t v, Try.f9.params[j]? = some t → args[j]? = some v → Value.okWide Try.prog W .any base t v := hval0
  have hW' := hW
  obtain ⟨p, q, hA0, hV, rfl, hfz, hnd⟩ := hW
  have hA : DataW.TrodAll enc Try.prog W 0 (fun _ => true) true Try.f9.params.toList args.toList ds p := hA0
  rw [Try.params9] at hA hval
  obtain ⟨v0, vs0, d0, ds0, p0, q0, hargs, rfl, rfl, h0, r0⟩ := trodAll_cons hA
  obtain ⟨v1, vs1, d1, ds1, p1, q1, rfl, rfl, rfl, h1, r1⟩ := trodAll_cons r0
  obtain ⟨rfl, rfl, rfl⟩ := trodAll_nil r1
  obtain rfl : args = #[v0, v1] := by cases args; simp_all
  obtain ⟨rfl, rfl⟩ := trodVars_none hV
  have k0 := h0
  have lt0 : ∀ x ∈ p0, x.block < W.heap.size := by obtain ⟨m, hm⟩ := k0; exact DataW.trod_lt m _ _ _ hm
  have k1 := h1
  have lt1 : ∀ x ∈ p1, x.block < W.heap.size := by obtain ⟨m, hm⟩ := k1; exact DataW.trod_lt m _ _ _ hm
  obtain ⟨A0, n0, m0, rfl⟩ := okWide_slice Try.underlying34 (hval 0 34 v0 rfl rfl)
  obtain ⟨fu0, hf0⟩ := h0
  obtain ⟨f0, hr0, hn0, hft0⟩ := openMeltS hf0
  obtain ⟨cs1, rfl, hz1⟩ := okWide_struct Try.underlying51 (hval 1 51 v1 rfl rfl)
  obtain ⟨l1⟩ := cs1
  obtain ⟨fu1, hf1⟩ := h1
  obtain ⟨hl1, n1, hg1⟩ := fields_of Try.underlying51 (by kernel_rfl) (by kernel_rfl) hf1
  obtain ⟨c1_0, c1_1, c1_2, c1_3, c1_4, rfl⟩ := list5 hl1
  obtain ⟨y1_0, t1_0⟩ := hg1 0 _ rfl c1_0 rfl
  obtain ⟨s1_0, e1_0, _, ws1_0⟩ := DataW.trod_string Try.underlying9 t1_0
  obtain rfl := one_cell e1_0
  obtain ⟨y1_1, t1_1⟩ := hg1 1 _ rfl c1_1 rfl
  obtain ⟨a1_1, e1_1, _, wa1_1⟩ := DataW.trod_int Try.underlying2 t1_1
  obtain rfl := one_cell e1_1
  obtain ⟨y1_2, t1_2⟩ := hg1 2 _ rfl c1_2 rfl
  obtain ⟨a1_2, e1_2, _, wa1_2⟩ := DataW.trod_int Try.underlying2 t1_2
  obtain rfl := one_cell e1_2
  obtain ⟨y1_3, t1_3⟩ := hg1 3 _ rfl c1_3 rfl
  obtain ⟨a1_3, e1_3, _, wa1_3⟩ := DataW.trod_int Try.underlying2 t1_3
  obtain rfl := one_cell e1_3
  obtain ⟨y1_4, t1_4⟩ := hg1 4 _ rfl c1_4 rfl
  obtain ⟨A1_4, n1_4, m1_4, rfl⟩ := slice_cell Try.underlying49 t1_4
  obtain ⟨q1_4_0, q1_4_1, hr1_4, hn1_4, r1_4_0, r1_4_1⟩ := openShareS t1_4
  clear hA0 hval0
  refine (walk A0 n0 m0 f0 s1_0 a1_1 a1_2 a1_3 A1_4 n1_4 m1_4 q1_4_0 q1_4_1 W hr0 hn0 hft0 ws1_0 wa1_1 wa1_2 wa1_3 hr1_4 hn1_4 r1_4_0 r1_4_1).mono fun e W' ⟨he, bel⟩ => ?_
  subst he
  exact ⟨_, rfl, _, _, _, [], _, [], hW', trodAll_mk1 (shut_bool Try.underlying4 _), (trodAll_cons_mk (Below.trod laidOut (by kernel_rfl) (of_decide_eq_true (by kernel_rfl)) k0 bel lt0) (trodAll_cons_mk (Below.trod laidOut (by kernel_rfl) (of_decide_eq_true (by kernel_rfl)) k1 bel lt1) trodAll_mk0)), rfl, bel.frame _, fun h => by cases h⟩
set_option maxHeartbeats 20000000 in
theorem closed : joinedFacts Try.pinned.checked.prog 9 Try.f9 Rows.fnExactIngotsOfSpec Rows.fnExactIngotsOfRow = true := by
  unfold joinedFacts
  simp only [Bool.and_eq_true]
  and_intros
  all_goals (as_aux_lemma => kernel_rfl)
theorem proved : Rows.FnExactIngotsOfSaid :=
  OpenClaim.holds_of_wide 9 Try.f9 rfl rfl rfl rfl rfl rfl rfl ⟨rfl, rfl, rfl, rfl, rfl⟩ rfl rfl rfl rfl rfl (by kernel_rfl) Try.func9 closed
    (of_decide_eq_true (by kernel_rfl)) (by unfold Func.isWrapper; first | (rw [if_pos (by decide +kernel)]; kernel_rfl) | (rw [if_neg (by decide +kernel)]; exact ⟨rfl, rfl⟩))
    (fun os started H enc _ => lifted os started H enc)
end Go.Proofs.Ytccjgeoebbnkoaa.FnExactIngotsOf
