/- FnExactAddBell: the program's AddBell and the reference's give the same of all melts, all bells and every bell that is added. No further condition. -/
import Derived.Test.YticnpibkpfpojaaBellOp
import Derived.Test.YticnpibkpfpojaaMarkB
import Derived.Deep.DeepCutAuto


import Derived.Test.YticnpibkpfpojaaRows
import Derived.Test.YticnpibkpfpojaaFrame
import Derived.Test.YticnpibkpfpojaaAddI
namespace Go.Proofs.Yticnpibkpfpojaa.FnExactAddBell
set_option linter.unusedVariables false
set_option linter.unusedSimpArgs false
open Go.ChangeShapes Go.WideShapes Go.ChangeAt Go.RowKit Go.Deep
open Go.ChangeMaps (open_string shut_string)
theorem MeltShape.mono {w : World} {A : Option Addr} {n lo hi lo2 hi2 : Nat} {ns : Nat → Nat} (h : MeltShape w A n ns lo hi) (h1 : lo2 ≤ lo) (h2 : hi ≤ hi2) : MeltShape w A n ns lo2 hi2 := fun hn => by
  obtain ⟨g, T, arr, hA, l1, l2, hb, ha⟩ := h hn
  exact ⟨g, T, arr, hA, by omega, by omega, hb, fun i hi => by
    obtain ⟨a, b, A2, c2, e, hsh⟩ := ha i hi
    exact ⟨a, b, A2, c2, e, fun h0 => by
      obtain ⟨g, T, arr, hA, l1, l2, hb, ha⟩ := hsh h0
      exact ⟨g, T, arr, hA, by omega, by omega, hb, ha⟩⟩⟩
theorem BellShape.mono {w : World} {A : Option Addr} {n lo hi lo2 hi2 : Nat} {ns : Nat → Nat} (h : BellShape w A n ns lo hi) (h1 : lo2 ≤ lo) (h2 : hi ≤ hi2) : BellShape w A n ns lo2 hi2 := fun hn => by
  obtain ⟨g, T, arr, hA, l1, l2, hb, ha⟩ := h hn
  exact ⟨g, T, arr, hA, by omega, by omega, hb, fun i hi => by
    obtain ⟨a0, a1, a2, a3, A2, c2, e, hsh⟩ := ha i hi
    exact ⟨a0, a1, a2, a3, A2, c2, e, fun h0 => by
      obtain ⟨g, T, arr, hA, l1, l2, hb, ha⟩ := hsh h0
      exact ⟨g, T, arr, hA, by omega, by omega, hb, ha⟩⟩⟩
theorem share_shape {w : World} {n lo hi G : Nat} {ss : Nat → ByteArray} {ms : Nat → Int} (h : ShareOwn w (some ⟨G, 0, none⟩) n ss ms G) (h1 : lo ≤ G) (h2 : G < hi) : ShareShape w (some ⟨G, 0, none⟩) n lo hi := fun h0 => by
  obtain ⟨-, arr, hb, -, ha⟩ := h h0
  exact ⟨G, _, arr, rfl, h1, h2, hb, fun j hj => ⟨⟨_, (ha j hj).1⟩, _, (ha j hj).2⟩⟩
theorem sumN_sumB (f : Nat → BellV) : ∀ n, sumN (fun i => (f i).n) n ≤ sumB f n
  | 0 => Nat.le_refl _
  | n + 1 => by
    have := sumN_sumB f n
    have e1 : sumN (fun i => (f i).n) (n + 1) = sumN (fun i => (f i).n) n + (f n).n := rfl
    have e2 : sumB f (n + 1) = sumB f n + bellSz (f n) := rfl
    unfold bellSz at e2
    omega
theorem sumN_four {F : Nat → BellV} : ∀ {L : Nat}, (∀ i, i < L → (F i).n ≤ 4) → sumN (fun i => (F i).n) L ≤ 4 * L
  | 0, _ => Nat.zero_le _
  | L + 1, h => by
    have h1 := sumN_four (F := F) (L := L) (fun i hi => h i (by omega))
    have h2 := h L (Nat.lt_succ_self L)
    have e1 : sumN (fun i => (F i).n) (L + 1) = sumN (fun i => (F i).n) L + (F L).n := rfl
    omega
set_option maxHeartbeats 1000000 in
theorem markBell_kin (s : ByteArray) (no ma fe : Int) (C : Option Addr) (p e2 lo hi k : Nat) (w : World) (h : ShareShape w C p lo hi) (hw : hi ≤ w.heap.size) (hn : p ≤ 1048576) (h1 : 1 ≤ k) (hk : k ≤ 1000000000) :
    Calls Try.prog 17 #[.agg #[.string s, .int .i64 no, .int .i64 ma, .int .i64 fe, .slice C p e2], .int .i64 k] w fun e w' => e = .returned (.int .i64 ((k + 2 * p : Nat) : Int)) ∧ Kin lo hi w w' := by
  have hal := (Below.refl w.heap.size w).alloc (Nat.le_refl _) (.cells #[.string s, .int .i64 no, .int .i64 ma, .int .i64 fe, .slice C p e2] 38)
  have H := Lib.hid (h.kin (Kin.of hal))
  have HAL := Lib.hid (Kin.of (lo := lo) (hi := hi) hal)
  have hsz := hal.size
  have HW := Lib.hid (Nat.le_trans hw hsz)
  clear h hal hsz
  go_enter Try.func17, Try.ntmps17
  go_wp2_with (go_at_call 43; refine (markShareS_kin C p e2 lo hi k _ H.out HW.out hn h1 hk).mono ?_; rintro e w1 ⟨rfl, hk1⟩; have HK := Lib.hid (HAL.out.trans hk1); clear hk1)
  go_ret
  exact ⟨rfl, HK.out⟩
/-- what both give: a list of the call's own, or none, and the code -/
def LOut (L : Nat) (F : Nat → BellV) (code : Int) (W : World) (e : Ending) (w' : World) : Prop := ∃ A9 c9 G9, e = .returned (.tuple #[.slice A9 L c9, .int .i64 code]) ∧ BellOwnS w' A9 L F G9 W.heap.size ∧ Below W.heap.size W w'
theorem both (m : Nat) (g : Nat → MeltV) (n : Nat) (f : Nat → BellV) (s : ByteArray) (no ma fe : Int) (p : Nat) (ss : Nat → ByteArray) (ms : Nat → Int) (hm : m ≤ 1048576) (hg : ∀ i, i < m → FineM (g i)) (hn : n ≤ 1048576) (hf : ∀ i, i < n → Fine (f i)) (hx : Fine (⟨s, no, ma, fe, p, ss, ms⟩ : BellV)) : ∃ (L : Nat) (F : Nat → BellV) (code : Int), L ≤ 100 ∧ (∀ i, i < L → 0 < (F i).n ∧ (F i).n ≤ 4) ∧
    (∀ W B d A c C e2, MeltRow W B m g → BellRow W A n f → ShareRow W C p ss ms → Calls Try.prog 7 #[.slice B m d, .slice A n c, .agg #[.string s, .int .i64 no, .int .i64 ma, .int .i64 fe, .slice C p e2]] W (LOut L F code W)) ∧
    (∀ W B d A c C e2, m ≤ d → n ≤ c → MeltRow W B m g → BellRow W A n f → ShareRow W C p ss ms → Calls Try.prog 11 #[.slice B m d, .slice A n c, .agg #[.string s, .int .i64 no, .int .i64 ma, .int .i64 fe, .slice C p e2]] W (LOut L F code W)) := by
  by_cases h0 : adC g m f n (⟨s, no, ma, fe, p, ss, ms⟩ : BellV) = 0
  · have hok : okBells f n = true ∧ bellV (⟨s, no, ma, fe, p, ss, ms⟩ : BellV) = true := by
      unfold adC at h0
      split at h0
      · cases h0
      · rename_i h
        simp only [Bool.not_eq_false, Bool.and_eq_true] at h
        exact ⟨h.1.2, h.2⟩
    have hP := (posA_spec f (⟨s, no, ma, fe, p, ss, ms⟩ : BellV) n).1
    have hfew := few_ins hok.1 hok.2 hP
    have hpos : ∀ i, i < n + 1 → 0 < (insF f (posA f (⟨s, no, ma, fe, p, ss, ms⟩ : BellV) n) (⟨s, no, ma, fe, p, ss, ms⟩ : BellV) i).n := insF_all (C := fun y => 0 < y.n) (fun i hi => bellV_pos (okB_V hok.1 hi)) (bellV_pos hok.2) hP
    have key : ∀ W e w', AddOut g m f n (⟨s, no, ma, fe, p, ss, ms⟩ : BellV) W e w' → LOut (n + 1) (insF f (posA f (⟨s, no, ma, fe, p, ss, ms⟩ : BellV) n) (⟨s, no, ma, fe, p, ss, ms⟩ : BellV)) 0 W e w' := fun W e w' h => by
      rcases h with ⟨q, -⟩ | ⟨-, A, c, G, rfl, hB, -, hb⟩
      · exact absurd h0 q
      · exact ⟨A, c, G, rfl, hB.weak, hb⟩
    exact ⟨n + 1, _, 0, hfew.1, fun i hi => ⟨hpos i hi, (hfew.2 i hi).1⟩,
      fun W B d A c C e2 h1 h2 h3 => (sAddBell_calls B m d g A n c f (⟨s, no, ma, fe, p, ss, ms⟩ : BellV) C e2 W h1 hm hg h2 hn hf h3 hx).mono fun e w' h => key W e w' h,
      fun W B d A c C e2 hd hc h1 h2 h3 => (iAddBell_calls B m d g A n c f (⟨s, no, ma, fe, p, ss, ms⟩ : BellV) C e2 W h1 hm hd hg h2 hn hc hf h3 hx).mono fun e w' h => key W e w' h⟩
  · have key : ∀ W e w', AddOut g m f n (⟨s, no, ma, fe, p, ss, ms⟩ : BellV) W e w' → LOut 0 f (adC g m f n (⟨s, no, ma, fe, p, ss, ms⟩ : BellV)) W e w' := fun W e w' h => by
      rcases h with ⟨-, rfl, hb⟩ | ⟨q, -⟩
      · exact ⟨none, 0, 0, rfl, fun h => absurd h (Nat.lt_irrefl _), hb⟩
      · exact absurd q h0
    exact ⟨0, f, _, by omega, fun i hi => absurd hi (Nat.not_lt_zero _),
      fun W B d A c C e2 h1 h2 h3 => (sAddBell_calls B m d g A n c f (⟨s, no, ma, fe, p, ss, ms⟩ : BellV) C e2 W h1 hm hg h2 hn hf h3 hx).mono fun e w' h => key W e w' h,
      fun W B d A c C e2 hd hc h1 h2 h3 => (iAddBell_calls B m d g A n c f (⟨s, no, ma, fe, p, ss, ms⟩ : BellV) C e2 W h1 hm hd hg h2 hn hc hf h3 hx).mono fun e w' h => key W e w' h⟩
set_option maxRecDepth 20000 in
set_option maxHeartbeats 16000000 in
theorem walk (B : Option Addr) (m d : Nat) (g : Nat → MeltV) (A : Option Addr) (n c : Nat) (f : Nat → BellV) (s : ByteArray) (no ma fe : Int) (C : Option Addr) (p e2 : Nat) (ss : Nat → ByteArray) (ms : Nat → Int) (w : World) (hr2 : MeltRow w B m g) (hm : m ≤ maxLen) (hft2 : ∀ i, i < m → FitM (g i)) (hrl : BellRow w A n f) (hn : n ≤ maxLen) (hft : ∀ i, i < n → Fit (f i)) (hs : s.size ≤ maxLen) (wno : (Lit.int .i64 no).wf = true) (wma : (Lit.int .i64 ma).wf = true) (wfe : (Lit.int .i64 fe).wf = true) (hr : ShareRow w C p ss ms) (hp : p ≤ maxLen) (hss : ∀ i, i < p → (ss i).size ≤ maxLen) (wms : ∀ i, i < p → (Lit.int .i64 (ms i)).wf = true) :
    Calls Try.prog 3 #[.slice B m d, .slice A n c, .agg #[.string s, .int .i64 no, .int .i64 ma, .int .i64 fe, .slice C p e2]] w fun e w' => e = .returned (.bool true) ∧ Below w.heap.size w w' := by
  have HFM := Lib.hid hft2
  have HFL := Lib.hid hft
  have HR := Lib.hid hr
  have HM := Lib.hid hr2
  have HL := Lib.hid hrl
  have HSS := Lib.hid hss
  have k1 := Lib.hid ((Below.refl w.heap.size w).alloc (Nat.le_refl _) (.cells #[.string s, .int .i64 no, .int .i64 ma, .int .i64 fe, .slice C p e2] 26))
  have B1 := Lib.hid (Blk.new w 26 #[.string s, .int .i64 no, .int .i64 ma, .int .i64 fe, .slice C p e2])
  clear hr hr2 hft2 hss wms wno wma wfe hrl hft
  by_cases hb1 : (1048576 : Int) < (m : Int) + sumM g m
  · go_enter Try.func3, Try.ntmps3
    go_wp2_with fail
    go_at_call 4
    refine (szMeltS_calls _ _ _ _ _ _ (HM.out.keep k1.out) HFM.out hm (by omega) (by omega)).mono ?_
    rw [if_pos hb1]
    rintro e w1 ⟨rfl, hb⟩
    replace k1 := Lib.hid (k1.out.trans (hb.mono k1.out.size)); replace B1 := Lib.hid (B1.out.keep hb); (try replace kw := Lib.hid (kw.out.trans (hb.mono kw.out.size))); (try replace gg1 := Lib.hid (gg1.out.keep hb)); (try replace X1 := Lib.hid (X1.out.keep hb)); (try replace xr1 := Lib.hid (xr1.out.keep hb)); (try replace xs1 := Lib.hid (xs1.out.kin (Kin.of hb))); (try replace xb1 := Lib.hid (xb1.out.keep hb)); (try replace xq1 := Lib.hid (xq1.out.kin (Kin.of hb))); (try replace xc1 := Lib.hid (ShareRow.keep xc1.out hb)); (try replace xp1 := Lib.hid (xp1.out.kin (Kin.of hb))); (try have hhi2 := Nat.le_trans hhi hb.size); (try clear hhi); (try have hhi := hhi2); (try clear hhi2)
    clear hb
    go_wp2
    go_ret
    exact ⟨rfl, k1.out⟩
  · obtain ⟨L0, hL⟩ : ∃ L : Int, L = 1048576 - ((m : Int) + sumM g m) := ⟨_, rfl⟩
    have hL0 : 0 ≤ L0 := by omega
    have hL1 : L0 ≤ 1048576 := by omega
    have hm2 : m ≤ 1048576 := by omega
    have hsumM : m + sumN (fun i => (g i).n) m ≤ 1048576 := by have := sumN_sumM g m; omega
    have HG2 := Lib.hid (fineM_of HFM.out (by omega))
    have HL0 := Lib.hid hL
    clear hL
    by_cases hb3 : L0 < (n : Int) + sumB f n
    · go_enter Try.func3, Try.ntmps3
      go_wp2_with fail
      go_at_call 4
      refine (szMeltS_calls _ _ _ _ _ _ (HM.out.keep k1.out) HFM.out hm (by omega) (by omega)).mono ?_
      rw [if_neg (by omega), ← HL0.out]
      rintro e w1 ⟨rfl, hb⟩
      replace k1 := Lib.hid (k1.out.trans (hb.mono k1.out.size)); replace B1 := Lib.hid (B1.out.keep hb); (try replace kw := Lib.hid (kw.out.trans (hb.mono kw.out.size))); (try replace gg1 := Lib.hid (gg1.out.keep hb)); (try replace X1 := Lib.hid (X1.out.keep hb)); (try replace xr1 := Lib.hid (xr1.out.keep hb)); (try replace xs1 := Lib.hid (xs1.out.kin (Kin.of hb))); (try replace xb1 := Lib.hid (xb1.out.keep hb)); (try replace xq1 := Lib.hid (xq1.out.kin (Kin.of hb))); (try replace xc1 := Lib.hid (ShareRow.keep xc1.out hb)); (try replace xp1 := Lib.hid (xp1.out.kin (Kin.of hb))); (try have hhi2 := Nat.le_trans hhi hb.size); (try clear hhi); (try have hhi := hhi2); (try clear hhi2)
      clear hb
      go_wp2_with fail
      go_at_call 5
      refine (szBellS_calls _ _ _ _ _ _ (HL.out.keep k1.out) HFL.out hn (by omega) (by omega)).mono ?_
      rw [if_pos (by omega)]
      rintro e w1 ⟨rfl, hb⟩
      replace k1 := Lib.hid (k1.out.trans (hb.mono k1.out.size)); replace B1 := Lib.hid (B1.out.keep hb); (try replace kw := Lib.hid (kw.out.trans (hb.mono kw.out.size))); (try replace gg1 := Lib.hid (gg1.out.keep hb)); (try replace X1 := Lib.hid (X1.out.keep hb)); (try replace xr1 := Lib.hid (xr1.out.keep hb)); (try replace xs1 := Lib.hid (xs1.out.kin (Kin.of hb))); (try replace xb1 := Lib.hid (xb1.out.keep hb)); (try replace xq1 := Lib.hid (xq1.out.kin (Kin.of hb))); (try replace xc1 := Lib.hid (ShareRow.keep xc1.out hb)); (try replace xp1 := Lib.hid (xp1.out.kin (Kin.of hb))); (try have hhi2 := Nat.le_trans hhi hb.size); (try clear hhi); (try have hhi := hhi2); (try clear hhi2)
      clear hb
      go_wp2
      go_ret
      exact ⟨rfl, k1.out⟩
    · obtain ⟨L1, hLb⟩ : ∃ L : Int, L = L0 - ((n : Int) + sumB f n) := ⟨_, rfl⟩
      have hL2 : 0 ≤ L1 := by omega
      have hL3 : L1 ≤ 1048576 := by omega
      have hn2 : n ≤ 1048576 := by omega
      have hsumL : n + sumN (fun i => (f i).n) n ≤ 1048576 := by have := sumN_sumB f n; omega
      have HG := Lib.hid (fine_of HFL.out (by omega))
      have HLb := Lib.hid hLb
      clear hLb
      by_cases hb2 : L1 < s.size + ((p : Int) + sumS ss p)
      · go_enter Try.func3, Try.ntmps3
        go_wp2_with fail
        go_at_call 4
        refine (szMeltS_calls _ _ _ _ _ _ (HM.out.keep k1.out) HFM.out hm (by omega) (by omega)).mono ?_
        rw [if_neg (by omega), ← HL0.out]
        rintro e w1 ⟨rfl, hb⟩
        replace k1 := Lib.hid (k1.out.trans (hb.mono k1.out.size)); replace B1 := Lib.hid (B1.out.keep hb); (try replace kw := Lib.hid (kw.out.trans (hb.mono kw.out.size))); (try replace gg1 := Lib.hid (gg1.out.keep hb)); (try replace X1 := Lib.hid (X1.out.keep hb)); (try replace xr1 := Lib.hid (xr1.out.keep hb)); (try replace xs1 := Lib.hid (xs1.out.kin (Kin.of hb))); (try replace xb1 := Lib.hid (xb1.out.keep hb)); (try replace xq1 := Lib.hid (xq1.out.kin (Kin.of hb))); (try replace xc1 := Lib.hid (ShareRow.keep xc1.out hb)); (try replace xp1 := Lib.hid (xp1.out.kin (Kin.of hb))); (try have hhi2 := Nat.le_trans hhi hb.size); (try clear hhi); (try have hhi := hhi2); (try clear hhi2)
        clear hb
        go_wp2_with fail
        go_at_call 5
        refine (szBellS_calls _ _ _ _ _ _ (HL.out.keep k1.out) HFL.out hn (by omega) (by omega)).mono ?_
        rw [if_neg (by omega), ← HLb.out]
        rintro e w1 ⟨rfl, hb⟩
        replace k1 := Lib.hid (k1.out.trans (hb.mono k1.out.size)); replace B1 := Lib.hid (B1.out.keep hb); (try replace kw := Lib.hid (kw.out.trans (hb.mono kw.out.size))); (try replace gg1 := Lib.hid (gg1.out.keep hb)); (try replace X1 := Lib.hid (X1.out.keep hb)); (try replace xr1 := Lib.hid (xr1.out.keep hb)); (try replace xs1 := Lib.hid (xs1.out.kin (Kin.of hb))); (try replace xb1 := Lib.hid (xb1.out.keep hb)); (try replace xq1 := Lib.hid (xq1.out.kin (Kin.of hb))); (try replace xc1 := Lib.hid (ShareRow.keep xc1.out hb)); (try replace xp1 := Lib.hid (xp1.out.kin (Kin.of hb))); (try have hhi2 := Nat.le_trans hhi hb.size); (try clear hhi); (try have hhi := hhi2); (try clear hhi2)
        clear hb
        have c0 := (B1.out.cell 0).trans rfl
        have c1 := (B1.out.cell 1).trans rfl
        have c2 := (B1.out.cell 2).trans rfl
        have c3 := (B1.out.cell 3).trans rfl
        have c4 := (B1.out.cell 4).trans rfl
        go_wp2_with fail
        go_at_call 6
        refine (szBell_calls _ _ _ _ _ _ _ _ _ _ _ (ShareRow.keep HR.out k1.out) hs HSS.out hp (by omega) (by omega)).mono ?_
        rw [show szV L1 s p ss = -1 by unfold szV; rw [if_pos (by omega)]]
        rintro e w2 ⟨rfl, hb⟩
        replace k1 := Lib.hid (k1.out.trans (hb.mono k1.out.size)); replace B1 := Lib.hid (B1.out.keep hb); (try replace kw := Lib.hid (kw.out.trans (hb.mono kw.out.size))); (try replace gg1 := Lib.hid (gg1.out.keep hb)); (try replace X1 := Lib.hid (X1.out.keep hb)); (try replace xr1 := Lib.hid (xr1.out.keep hb)); (try replace xs1 := Lib.hid (xs1.out.kin (Kin.of hb))); (try replace xb1 := Lib.hid (xb1.out.keep hb)); (try replace xq1 := Lib.hid (xq1.out.kin (Kin.of hb))); (try replace xc1 := Lib.hid (ShareRow.keep xc1.out hb)); (try replace xp1 := Lib.hid (xp1.out.kin (Kin.of hb))); (try have hhi2 := Nat.le_trans hhi hb.size); (try clear hhi); (try have hhi := hhi2); (try clear hhi2)
        clear hb
        clear c0 c1 c2 c3 c4
        go_wp2
        go_ret
        exact ⟨rfl, k1.out⟩
      · have hp2 : p ≤ 1048576 := by omega
        obtain ⟨LL, hLL⟩ : ∃ LL, LL = szV L1 s p ss := ⟨_, rfl⟩
        have hL20 : 0 ≤ LL := by rw [hLL]; unfold szV; rw [if_neg hb2]; omega
        have HLL := Lib.hid hLL
        have HNM := Lib.hid (show ∀ i, i < m → (g i).n ≤ 1048576 from fun i hi => (HG2.out i hi).2.2)
        have HNL := Lib.hid (show ∀ i, i < n → (f i).n ≤ 1048576 from fun i hi => (HG.out i hi).2.2)
        obtain ⟨L, F, code, hL100, hF4, hcs, hci⟩ := both m g n f s no ma fe p ss ms hm2 HG2.out hn2 HG.out ⟨hs, HSS.out, hp2⟩
        have CS := Lib.hid hcs
        have CI := Lib.hid hci
        have HF4 := Lib.hid hF4
        have hsumF := sumN_four (fun i hi => (hF4 i hi).2)
        have HFN := Lib.hid (show ∀ i, i < L → (F i).n ≤ 1048576 from fun i hi => by have := (hF4 i hi).2; omega)
        clear hLL hcs hci hF4
        go_enter Try.func3, Try.ntmps3
        go_wp2_with fail
        go_at_call 4
        refine (szMeltS_calls _ _ _ _ _ _ (HM.out.keep k1.out) HFM.out hm (by omega) (by omega)).mono ?_
        rw [if_neg (by omega), ← HL0.out]
        rintro e w1 ⟨rfl, hb⟩
        replace k1 := Lib.hid (k1.out.trans (hb.mono k1.out.size)); replace B1 := Lib.hid (B1.out.keep hb); (try replace kw := Lib.hid (kw.out.trans (hb.mono kw.out.size))); (try replace gg1 := Lib.hid (gg1.out.keep hb)); (try replace X1 := Lib.hid (X1.out.keep hb)); (try replace xr1 := Lib.hid (xr1.out.keep hb)); (try replace xs1 := Lib.hid (xs1.out.kin (Kin.of hb))); (try replace xb1 := Lib.hid (xb1.out.keep hb)); (try replace xq1 := Lib.hid (xq1.out.kin (Kin.of hb))); (try replace xc1 := Lib.hid (ShareRow.keep xc1.out hb)); (try replace xp1 := Lib.hid (xp1.out.kin (Kin.of hb))); (try have hhi2 := Nat.le_trans hhi hb.size); (try clear hhi); (try have hhi := hhi2); (try clear hhi2)
        clear hb
        go_wp2_with fail
        go_at_call 5
        refine (szBellS_calls _ _ _ _ _ _ (HL.out.keep k1.out) HFL.out hn (by omega) (by omega)).mono ?_
        rw [if_neg (by omega), ← HLb.out]
        rintro e w1 ⟨rfl, hb⟩
        replace k1 := Lib.hid (k1.out.trans (hb.mono k1.out.size)); replace B1 := Lib.hid (B1.out.keep hb); (try replace kw := Lib.hid (kw.out.trans (hb.mono kw.out.size))); (try replace gg1 := Lib.hid (gg1.out.keep hb)); (try replace X1 := Lib.hid (X1.out.keep hb)); (try replace xr1 := Lib.hid (xr1.out.keep hb)); (try replace xs1 := Lib.hid (xs1.out.kin (Kin.of hb))); (try replace xb1 := Lib.hid (xb1.out.keep hb)); (try replace xq1 := Lib.hid (xq1.out.kin (Kin.of hb))); (try replace xc1 := Lib.hid (ShareRow.keep xc1.out hb)); (try replace xp1 := Lib.hid (xp1.out.kin (Kin.of hb))); (try have hhi2 := Nat.le_trans hhi hb.size); (try clear hhi); (try have hhi := hhi2); (try clear hhi2)
        clear hb
        have c0 := (B1.out.cell 0).trans rfl
        have c1 := (B1.out.cell 1).trans rfl
        have c2 := (B1.out.cell 2).trans rfl
        have c3 := (B1.out.cell 3).trans rfl
        have c4 := (B1.out.cell 4).trans rfl
        go_wp2_with fail
        go_at_call 6
        refine (szBell_calls _ _ _ _ _ _ _ _ _ _ _ (ShareRow.keep HR.out k1.out) hs HSS.out hp (by omega) (by omega)).mono ?_
        rw [← HLL.out]
        rintro e w2 ⟨rfl, hb⟩
        replace k1 := Lib.hid (k1.out.trans (hb.mono k1.out.size)); replace B1 := Lib.hid (B1.out.keep hb); (try replace kw := Lib.hid (kw.out.trans (hb.mono kw.out.size))); (try replace gg1 := Lib.hid (gg1.out.keep hb)); (try replace X1 := Lib.hid (X1.out.keep hb)); (try replace xr1 := Lib.hid (xr1.out.keep hb)); (try replace xs1 := Lib.hid (xs1.out.kin (Kin.of hb))); (try replace xb1 := Lib.hid (xb1.out.keep hb)); (try replace xq1 := Lib.hid (xq1.out.kin (Kin.of hb))); (try replace xc1 := Lib.hid (ShareRow.keep xc1.out hb)); (try replace xp1 := Lib.hid (xp1.out.kin (Kin.of hb))); (try have hhi2 := Nat.le_trans hhi hb.size); (try clear hhi); (try have hhi := hhi2); (try clear hhi2)
        clear hb
        clear c0 c1 c2 c3 c4
        go_wp2_with fail
        refine wp_gen (fun W0 hW0 => ?_)
        have s0_ : Below w.heap.size w W0 := by rw [hW0]; exact k1.out
        have s1_ : Blk W0 w.heap.size 26 #[.string s, .int .i64 no, .int .i64 ma, .int .i64 fe, .slice C p e2] := by rw [hW0]; exact B1.out
        have s2_ : W0.cell? ⟨w.heap.size, 0, none⟩ = some (.string s) := (s1_.cell 0).trans rfl
        have s3_ : W0.cell? ⟨w.heap.size, 1, none⟩ = some (.int .i64 no) := (s1_.cell 1).trans rfl
        have s4_ : W0.cell? ⟨w.heap.size, 2, none⟩ = some (.int .i64 ma) := (s1_.cell 2).trans rfl
        have s5_ : W0.cell? ⟨w.heap.size, 3, none⟩ = some (.int .i64 fe) := (s1_.cell 3).trans rfl
        have s6_ : W0.cell? ⟨w.heap.size, 4, none⟩ = some (.slice C p e2) := (s1_.cell 4).trans rfl
        clear k1 B1
        clear hW0
        refine wp_region_held_drew (S := fun w' => Below w.heap.size w w' ∧ Blk w' w.heap.size 26 #[.string s, .int .i64 no, .int .i64 ma, .int .i64 fe, .slice C p e2] ∧ w'.cell? ⟨w.heap.size, 0, none⟩ = some (.string s) ∧ w'.cell? ⟨w.heap.size, 1, none⟩ = some (.int .i64 no) ∧ w'.cell? ⟨w.heap.size, 2, none⟩ = some (.int .i64 ma) ∧ w'.cell? ⟨w.heap.size, 3, none⟩ = some (.int .i64 fe) ∧ w'.cell? ⟨w.heap.size, 4, none⟩ = some (.slice C p e2)) (by kernel_rfl) ?_ (fun hHeld => ?_)
        · exact ⟨s0_.drew, s1_, s2_, s3_, s4_, s5_, s6_⟩
        clear s0_ s1_ s2_ s3_ s4_ s5_ s6_
        refine take_yes (i := 0) (d := 36) (v := ?_) _ rfl rfl (by kernel_rfl) (by kernel_rfl) (by kernel_rfl) (fun _ _ _ _ h => h) (by rfl) ?_ (by assumption) ?_
        rotate_left 1
        · ((intro w hSw; (try dsimp only at hSw); go_simp) <;> (try with_reducible rfl))
        (try simp only [Act.put, List.setIfInBounds_toArray, List.set_cons_zero, List.set_cons_succ])
        refine take_yes (i := 2) (d := 38) (v := ?_) _ rfl rfl (by kernel_rfl) (by kernel_rfl) (by kernel_rfl) (fun _ _ _ _ h => h) (by rfl) ?_ (by assumption) ?_
        rotate_left 1
        · ((intro w hSw; (try dsimp only at hSw); go_simp) <;> (try with_reducible rfl))
        (try simp only [Act.put, List.setIfInBounds_toArray, List.set_cons_zero, List.set_cons_succ])
        refine take_yes (i := 4) (d := 40) (v := ?_) _ rfl rfl (by kernel_rfl) (by kernel_rfl) (by kernel_rfl) (fun _ _ _ _ h => h) (by rfl) ?_ (by assumption) ?_
        rotate_left 1
        · ((intro w hSw; (try dsimp only at hSw); go_simp) <;> (try with_reducible rfl))
        (try simp only [Act.put, List.setIfInBounds_toArray, List.set_cons_zero, List.set_cons_succ])
        (refine wpAnyH_ready (rs := [1]) (by kernel_rfl) (by simp) ?_; refine AllReadyH.cons rfl (fun K hK => ?_) AllReadyH.nil; go_simp; go_at_call 8; refine (toMeltS_calls _ _ _ _ _ (HM.out.keep (And.left hHeld)) HNM.out hm2).mono ?_; rintro e wd ⟨rfl, hb, -, hmc, -⟩; refine hK.out _ _ (by obtain ⟨x0_, x1_, x2_, x3_, x4_, x5_, x6_⟩ := hHeld; exact ⟨x0_.trans (hb.mono x0_.size), x1_.keep hb, cell_keep hb x2_, cell_keep hb x3_, cell_keep hb x4_, cell_keep hb x5_, cell_keep hb x6_⟩) (fun hHeld2 => ?_); (try replace hmc := hmc.keep hb); (try replace hlc := hlc.keep hb); clear hK K hHeld hb; have hHeld := hHeld2; clear hHeld2; (try simp only [Act.put, List.setIfInBounds_toArray, List.set_cons_zero, List.set_cons_succ]))
        (refine wpAnyH_ready (rs := [3]) (by kernel_rfl) (by simp) ?_; refine AllReadyH.cons rfl (fun K hK => ?_) AllReadyH.nil; go_simp; go_at_call 9; refine (toBellS_calls _ _ _ _ _ (HL.out.keep (And.left hHeld)) HNL.out hn2).mono ?_; rintro e wd ⟨rfl, hb, -, hlc⟩; refine hK.out _ _ (by obtain ⟨x0_, x1_, x2_, x3_, x4_, x5_, x6_⟩ := hHeld; exact ⟨x0_.trans (hb.mono x0_.size), x1_.keep hb, cell_keep hb x2_, cell_keep hb x3_, cell_keep hb x4_, cell_keep hb x5_, cell_keep hb x6_⟩) (fun hHeld2 => ?_); (try replace hmc := hmc.keep hb); (try replace hlc := hlc.keep hb); clear hK K hHeld hb; have hHeld := hHeld2; clear hHeld2; (try simp only [Act.put, List.setIfInBounds_toArray, List.set_cons_zero, List.set_cons_succ]))
        (refine wpAnyH_ready (rs := [5]) (by kernel_rfl) (by simp) ?_; refine AllReadyH.cons rfl (fun K hK => ?_) AllReadyH.nil; go_simp; go_at_call 10; refine (toBell_calls _ _ _ _ _ _ _ _ _ _ (ShareRow.keep HR.out (And.left hHeld)) hp2).mono ?_; rintro e wd ⟨GB, rfl, hb, gb1, gb2, hbc⟩; refine hK.out _ _ (by obtain ⟨x0_, x1_, x2_, x3_, x4_, x5_, x6_⟩ := hHeld; exact ⟨x0_.trans (hb.mono x0_.size), x1_.keep hb, cell_keep hb x2_, cell_keep hb x3_, cell_keep hb x4_, cell_keep hb x5_, cell_keep hb x6_⟩) (fun hHeld2 => ?_); (try replace hmc := hmc.keep hb); (try replace hlc := hlc.keep hb); clear hK K hHeld hb; have hHeld := hHeld2; clear hHeld2; (try simp only [Act.put, List.setIfInBounds_toArray, List.set_cons_zero, List.set_cons_succ]))
        (refine wpAnyH_ready (rs := [6]) (by kernel_rfl) (by simp) ?_; refine AllReadyH.cons rfl (fun K hK => ?_) AllReadyH.nil; go_simp; go_at_call 7; refine (CS.out _ _ _ _ _ _ _ hmc hlc hbc).mono ?_; rintro e wd ⟨Aw, cw, Gw, rfl, hio, hb⟩; refine hK.out _ _ (by obtain ⟨x0_, x1_, x2_, x3_, x4_, x5_, x6_⟩ := hHeld; exact ⟨x0_.trans (hb.mono x0_.size), x1_.keep hb, cell_keep hb x2_, cell_keep hb x3_, cell_keep hb x4_, cell_keep hb x5_, cell_keep hb x6_⟩) (fun hHeld2 => ?_); (try replace hmc := hmc.keep hb); (try replace hlc := hlc.keep hb); clear hK K hHeld hb; have hHeld := hHeld2; clear hHeld2; (try simp only [Act.put, List.setIfInBounds_toArray, List.set_cons_zero, List.set_cons_succ]))
        refine take_yes (i := 7) (d := 35) (v := ?_) _ rfl rfl (by kernel_rfl) (by kernel_rfl) (by kernel_rfl) (fun _ _ _ _ h => h) (by rfl) ?_ (by assumption) ?_
        rotate_left 1
        · ((intro w hSw; (try dsimp only at hSw); go_simp) <;> (try with_reducible rfl))
        (try simp only [Act.put, List.setIfInBounds_toArray, List.set_cons_zero, List.set_cons_succ])
        refine take_yes (i := 8) (d := 43) (v := ?_) _ rfl rfl (by kernel_rfl) (by kernel_rfl) (by kernel_rfl) (fun _ _ _ _ h => h) (by rfl) ?_ (by assumption) ?_
        rotate_left 1
        · ((intro w hSw; (try dsimp only at hSw); go_simp) <;> (try with_reducible rfl))
        (try simp only [Act.put, List.setIfInBounds_toArray, List.set_cons_zero, List.set_cons_succ])
        refine take_yes (i := 9) (d := 44) (v := ?_) _ rfl rfl (by kernel_rfl) (by kernel_rfl) (by kernel_rfl) (fun _ _ _ _ h => h) (by rfl) ?_ (by assumption) ?_
        rotate_left 1
        · ((intro w hSw; (try dsimp only at hSw); go_simp) <;> (try with_reducible rfl))
        (try simp only [Act.put, List.setIfInBounds_toArray, List.set_cons_zero, List.set_cons_succ])
        refine take_yes (i := 10) (d := 8) (v := ?_) _ rfl rfl (by kernel_rfl) (by kernel_rfl) (by kernel_rfl) (fun _ _ _ _ h => h) (by rfl) ?_ (by assumption) ?_
        rotate_left 1
        · ((intro w hSw; (try dsimp only at hSw); go_simp) <;> (try with_reducible rfl))
        (try simp only [Act.put, List.setIfInBounds_toArray, List.set_cons_zero, List.set_cons_succ])
        refine take_yes (i := 11) (d := 9) (v := ?_) _ rfl rfl (by kernel_rfl) (by kernel_rfl) (by kernel_rfl) (fun _ _ _ _ h => h) (by rfl) ?_ (by assumption) ?_
        rotate_left 1
        · ((intro w hSw; (try dsimp only at hSw); go_simp) <;> (try with_reducible rfl))
        (try simp only [Act.put, List.setIfInBounds_toArray, List.set_cons_zero, List.set_cons_succ])
        refine wpAnyH_done (by kernel_rfl) ?_ _
        obtain ⟨z0, z1, z2, z3, z4, z5, z6⟩ := hHeld
        have k1 := Lib.hid z0
        have B1 := Lib.hid z1
        have gw1 := Lib.hid hio.row
        have kw := Lib.hid (Below.refl wd.heap.size wd)
        obtain ⟨wg, hwg⟩ : ∃ wg, wg = wd := ⟨_, rfl⟩
        subst hwg
        clear z0 z1 z2 z3 z4 z5 z6 hio hmc hlc hbc gb1 gb2
        go_wp2_with fail
        go_at_call 8
        refine (toMeltS_calls _ _ _ _ _ (HM.out.keep k1.out) HNM.out hm2).mono ?_
        rintro e w4 ⟨rfl, hb, -, hc, hx⟩
        obtain ⟨lo1, hlo1⟩ : ∃ lo : Nat, lo = wg.heap.size := ⟨_, rfl⟩
        have hlo : w.heap.size ≤ lo1 := by have := k1.out.size; omega
        have hloS : w.heap.size < lo1 := by have := B1.out.lt; omega
        have hwlo : wg.heap.size ≤ lo1 := by omega
        have hlo4 : lo1 ≤ w4.heap.size := by have := hb.size; omega
        rw [← hlo1] at hc hx
        replace k1 := Lib.hid (k1.out.trans (hb.mono k1.out.size)); replace B1 := Lib.hid (B1.out.keep hb); (try replace kw := Lib.hid (kw.out.trans (hb.mono kw.out.size))); (try replace gg1 := Lib.hid (gg1.out.keep hb)); (try replace X1 := Lib.hid (X1.out.keep hb)); (try replace xr1 := Lib.hid (xr1.out.keep hb)); (try replace xs1 := Lib.hid (xs1.out.kin (Kin.of hb))); (try replace xb1 := Lib.hid (xb1.out.keep hb)); (try replace xq1 := Lib.hid (xq1.out.kin (Kin.of hb))); (try replace xc1 := Lib.hid (ShareRow.keep xc1.out hb)); (try replace xp1 := Lib.hid (xp1.out.kin (Kin.of hb))); (try have hhi2 := Nat.le_trans hhi hb.size); (try clear hhi); (try have hhi := hhi2); (try clear hhi2)
        have xr1 := Lib.hid hc
        have xs1 := Lib.hid hx
        rw [← hlo1]
        clear hb hc hx hlo1
        go_wp2_with fail
        go_at_call 9
        refine (toBellS_own _ _ _ _ _ (HL.out.keep k1.out) HNL.out hn2).mono ?_
        rintro e w5 ⟨rfl, hb, -, hco, hx⟩
        have xs2 := Lib.hid (MeltShape.mono (xs1.out.kin (Kin.of hb)) (Nat.le_refl _) hb.size)
        have xq1 := Lib.hid (BellShape.mono hx hlo4 (Nat.le_refl _))
        have hlo5 : lo1 ≤ w5.heap.size := by have := hb.size; omega
        obtain ⟨G3, hG3⟩ : ∃ G : Nat, G = w4.heap.size := ⟨_, rfl⟩
        rw [← hG3] at xq1 hco ⊢
        clear xs1
        replace k1 := Lib.hid (k1.out.trans (hb.mono k1.out.size)); replace B1 := Lib.hid (B1.out.keep hb); (try replace kw := Lib.hid (kw.out.trans (hb.mono kw.out.size))); (try replace gg1 := Lib.hid (gg1.out.keep hb))
        replace xr1 := Lib.hid (xr1.out.keep hb)
        have xb1 := Lib.hid hco
        have xs1 := xs2
        clear hb hco hx xs2 hG3
        have c0 := (B1.out.cell 0).trans rfl
        have c1 := (B1.out.cell 1).trans rfl
        have c2 := (B1.out.cell 2).trans rfl
        have c3 := (B1.out.cell 3).trans rfl
        have c4 := (B1.out.cell 4).trans rfl
        go_wp2_with fail
        go_at_call 10
        refine (toBell_own _ _ _ _ _ _ _ _ _ _ (ShareRow.keep HR.out k1.out) hp2).mono ?_
        rintro e w6 ⟨G2, rfl, hb, g1, g2, hco⟩
        have xs2 := Lib.hid (MeltShape.mono (xs1.out.kin (Kin.of hb)) (Nat.le_refl _) hb.size)
        have xq2 := Lib.hid (BellShape.mono (xq1.out.kin (Kin.of hb)) (Nat.le_refl _) hb.size)
        have xp1 := Lib.hid (share_shape hco (show lo1 ≤ G2 by omega) g2)
        have xc1 := Lib.hid hco.row
        have hlo6 : lo1 ≤ w6.heap.size := by have := hb.size; omega
        clear xs1 xq1
        replace k1 := Lib.hid (k1.out.trans (hb.mono k1.out.size)); replace B1 := Lib.hid (B1.out.keep hb); (try replace kw := Lib.hid (kw.out.trans (hb.mono kw.out.size))); (try replace gg1 := Lib.hid (gg1.out.keep hb))
        replace xr1 := Lib.hid (xr1.out.keep hb)
        replace xb1 := Lib.hid (xb1.out.keep hb)
        have xs1 := xs2
        have xq1 := xq2
        clear c0 c1 c2 c3 c4
        clear hb hco xs2 xq2 g1 g2
        obtain ⟨hi1, hhi1⟩ : ∃ hi : Nat, hi = w6.heap.size := ⟨_, rfl⟩
        rw [← hhi1] at xs1 xq1 xp1
        have hlohi : lo1 ≤ hi1 := by omega
        have hhi : hi1 ≤ w6.heap.size := by omega
        clear hhi1 hlo4 hlo5 hlo6
        go_wp2_with fail
        go_at_call 11
        have X1 := Lib.hid (Blk.new w6 38 #[.string s, .int .i64 no, .int .i64 ma, .int .i64 fe, .slice (some ⟨G2, 0, none⟩) p p])
        have hb := (Below.refl w6.heap.size w6).alloc (Nat.le_refl _) (.cells #[.string s, .int .i64 no, .int .i64 ma, .int .i64 fe, .slice (some ⟨G2, 0, none⟩) p p] 38)
        have hXb : w.heap.size < w6.heap.size := B1.out.lt
        replace k1 := Lib.hid (k1.out.trans (hb.mono k1.out.size)); replace B1 := Lib.hid (B1.out.keep hb); (try replace kw := Lib.hid (kw.out.trans (hb.mono kw.out.size))); (try replace gg1 := Lib.hid (gg1.out.keep hb))
        replace xr1 := Lib.hid (xr1.out.keep hb)
        replace xs1 := Lib.hid (xs1.out.kin (Kin.of hb))
        replace xb1 := Lib.hid (xb1.out.keep hb)
        replace xq1 := Lib.hid (xq1.out.kin (Kin.of hb))
        replace xc1 := Lib.hid (ShareRow.keep xc1.out hb)
        replace xp1 := Lib.hid (xp1.out.kin (Kin.of hb))
        have hhi2 := Nat.le_trans hhi hb.size
        obtain ⟨gx, hgx⟩ : ∃ gx, gx = w6.heap.size := ⟨_, rfl⟩
        have hgxhi : hi1 ≤ gx := by omega
        have hgxw : gx < (w6.alloc (.cells #[.string s, .int .i64 no, .int .i64 ma, .int .i64 fe, .slice (some ⟨G2, 0, none⟩) p p] 38)).heap.size := by rw [hgx]; simp
        have hwgx : w.heap.size < gx := by omega
        rw [← hgx] at X1 ⊢
        clear hb hhi hgx hXb
        have hhi := hhi2
        clear hhi2
        generalize w6.alloc (.cells #[.string s, .int .i64 no, .int .i64 ma, .int .i64 fe, .slice (some ⟨G2, 0, none⟩) p p] 38) = w7 at *
        refine (CI.out _ _ _ _ _ _ _ (Nat.le_refl _) (Nat.le_refl _) xr1.out xb1.out xc1.out).mono ?_
        rintro e w8 ⟨Ag, cg, Gg, rfl, hio, hb⟩
        obtain ⟨lo2, hlo2e⟩ : ∃ lo : Nat, lo = w7.heap.size := ⟨_, rfl⟩
        rw [← hlo2e] at hio
        have hhlo2 : hi1 ≤ lo2 := by omega
        have hgxlo2 : gx < lo2 := by omega
        have hlo28 : lo2 ≤ w8.heap.size := by have := hb.size; omega
        replace k1 := Lib.hid (k1.out.trans (hb.mono k1.out.size)); replace B1 := Lib.hid (B1.out.keep hb); (try replace kw := Lib.hid (kw.out.trans (hb.mono kw.out.size))); (try replace gg1 := Lib.hid (gg1.out.keep hb)); (try replace X1 := Lib.hid (X1.out.keep hb)); (try replace xr1 := Lib.hid (xr1.out.keep hb)); (try replace xs1 := Lib.hid (xs1.out.kin (Kin.of hb))); (try replace xb1 := Lib.hid (xb1.out.keep hb)); (try replace xq1 := Lib.hid (xq1.out.kin (Kin.of hb))); (try replace xc1 := Lib.hid (ShareRow.keep xc1.out hb)); (try replace xp1 := Lib.hid (xp1.out.kin (Kin.of hb))); (try have hhi2 := Nat.le_trans hhi hb.size); (try clear hhi); (try have hhi := hhi2); (try clear hhi2)
        have gg1 := Lib.hid hio
        clear hb hio hlo2e hgxw
        go_wp2_with fail
        go_at_call 12
        refine (eqBellS_calls _ _ L _ _ F _ gg1.out.row (gw1.out.keep kw.out) HFN.out (by omega)).mono ?_
        rintro e w9 ⟨rfl, hb⟩
        replace k1 := Lib.hid (k1.out.trans (hb.mono k1.out.size)); replace B1 := Lib.hid (B1.out.keep hb); (try replace kw := Lib.hid (kw.out.trans (hb.mono kw.out.size))); (try replace gg1 := Lib.hid (gg1.out.keep hb)); (try replace X1 := Lib.hid (X1.out.keep hb)); (try replace xr1 := Lib.hid (xr1.out.keep hb)); (try replace xs1 := Lib.hid (xs1.out.kin (Kin.of hb))); (try replace xb1 := Lib.hid (xb1.out.keep hb)); (try replace xq1 := Lib.hid (xq1.out.kin (Kin.of hb))); (try replace xc1 := Lib.hid (ShareRow.keep xc1.out hb)); (try replace xp1 := Lib.hid (xp1.out.kin (Kin.of hb))); (try have hhi2 := Nat.le_trans hhi hb.size); (try clear hhi); (try have hhi := hhi2); (try clear hhi2)
        have hlo29 : lo2 ≤ w9.heap.size := Nat.le_trans hlo28 hb.size
        clear hb hlo28
        go_wp2_with fail
        go_at_call 8
        refine (toMeltS_calls _ _ _ _ _ (HM.out.keep k1.out) HNM.out hm2).mono ?_
        rintro e w10 ⟨rfl, hb, -, hc, -⟩
        have hx2 := Lib.hid hc
        replace k1 := Lib.hid (k1.out.trans (hb.mono k1.out.size)); replace B1 := Lib.hid (B1.out.keep hb); (try replace kw := Lib.hid (kw.out.trans (hb.mono kw.out.size))); (try replace gg1 := Lib.hid (gg1.out.keep hb)); (try replace X1 := Lib.hid (X1.out.keep hb)); (try replace xr1 := Lib.hid (xr1.out.keep hb)); (try replace xs1 := Lib.hid (xs1.out.kin (Kin.of hb))); (try replace xb1 := Lib.hid (xb1.out.keep hb)); (try replace xq1 := Lib.hid (xq1.out.kin (Kin.of hb))); (try replace xc1 := Lib.hid (ShareRow.keep xc1.out hb)); (try replace xp1 := Lib.hid (xp1.out.kin (Kin.of hb))); (try have hhi2 := Nat.le_trans hhi hb.size); (try clear hhi); (try have hhi := hhi2); (try clear hhi2)
        have hlo210 : lo2 ≤ w10.heap.size := Nat.le_trans hlo29 hb.size
        clear hb hc hlo29
        go_wp2_with fail
        go_at_call 13
        refine (eqMeltS_calls _ _ _ _ _ _ _ xr1.out hx2.out HNM.out hm2).mono ?_
        rintro e w11 ⟨rfl, hb⟩
        replace k1 := Lib.hid (k1.out.trans (hb.mono k1.out.size)); replace B1 := Lib.hid (B1.out.keep hb); (try replace kw := Lib.hid (kw.out.trans (hb.mono kw.out.size))); (try replace gg1 := Lib.hid (gg1.out.keep hb)); (try replace X1 := Lib.hid (X1.out.keep hb)); (try replace xr1 := Lib.hid (xr1.out.keep hb)); (try replace xs1 := Lib.hid (xs1.out.kin (Kin.of hb))); (try replace xb1 := Lib.hid (xb1.out.keep hb)); (try replace xq1 := Lib.hid (xq1.out.kin (Kin.of hb))); (try replace xc1 := Lib.hid (ShareRow.keep xc1.out hb)); (try replace xp1 := Lib.hid (xp1.out.kin (Kin.of hb))); (try have hhi2 := Nat.le_trans hhi hb.size); (try clear hhi); (try have hhi := hhi2); (try clear hhi2)
        have hlo211 : lo2 ≤ w11.heap.size := Nat.le_trans hlo210 hb.size
        clear hb hx2 xr1 hlo210
        go_wp2_with fail
        go_at_call 9
        refine (toBellS_calls _ _ _ _ _ (HL.out.keep k1.out) HNL.out hn2).mono ?_
        rintro e w12 ⟨rfl, hb, -, hc⟩
        have hx2 := Lib.hid hc
        replace k1 := Lib.hid (k1.out.trans (hb.mono k1.out.size)); replace B1 := Lib.hid (B1.out.keep hb); (try replace kw := Lib.hid (kw.out.trans (hb.mono kw.out.size))); (try replace gg1 := Lib.hid (gg1.out.keep hb)); (try replace X1 := Lib.hid (X1.out.keep hb)); (try replace xr1 := Lib.hid (xr1.out.keep hb)); (try replace xs1 := Lib.hid (xs1.out.kin (Kin.of hb))); (try replace xb1 := Lib.hid (xb1.out.keep hb)); (try replace xq1 := Lib.hid (xq1.out.kin (Kin.of hb))); (try replace xc1 := Lib.hid (ShareRow.keep xc1.out hb)); (try replace xp1 := Lib.hid (xp1.out.kin (Kin.of hb))); (try have hhi2 := Nat.le_trans hhi hb.size); (try clear hhi); (try have hhi := hhi2); (try clear hhi2)
        have hlo212 : lo2 ≤ w12.heap.size := Nat.le_trans hlo211 hb.size
        clear hb hc hlo211
        go_wp2_with fail
        go_at_call 12
        refine (eqBellS_calls _ _ _ _ _ _ _ xb1.out hx2.out HNL.out hn2).mono ?_
        rintro e w13 ⟨rfl, hb⟩
        replace k1 := Lib.hid (k1.out.trans (hb.mono k1.out.size)); replace B1 := Lib.hid (B1.out.keep hb); (try replace kw := Lib.hid (kw.out.trans (hb.mono kw.out.size))); (try replace gg1 := Lib.hid (gg1.out.keep hb)); (try replace X1 := Lib.hid (X1.out.keep hb)); (try replace xr1 := Lib.hid (xr1.out.keep hb)); (try replace xs1 := Lib.hid (xs1.out.kin (Kin.of hb))); (try replace xb1 := Lib.hid (xb1.out.keep hb)); (try replace xq1 := Lib.hid (xq1.out.kin (Kin.of hb))); (try replace xc1 := Lib.hid (ShareRow.keep xc1.out hb)); (try replace xp1 := Lib.hid (xp1.out.kin (Kin.of hb))); (try have hhi2 := Nat.le_trans hhi hb.size); (try clear hhi); (try have hhi := hhi2); (try clear hhi2)
        have hlo213 : lo2 ≤ w13.heap.size := Nat.le_trans hlo212 hb.size
        clear hb hx2 xb1 hlo212
        go_wp2_with fail
        refine wp_gen (fun W0 hW0 => ?_)
        have s0_ : Below w.heap.size w W0 := by rw [hW0]; exact k1.out
        have s1_ : Blk W0 w.heap.size 26 #[.string s, .int .i64 no, .int .i64 ma, .int .i64 fe, .slice C p e2] := by rw [hW0]; exact B1.out
        have s2_ : W0.cell? ⟨w.heap.size, 0, none⟩ = some (.string s) := (s1_.cell 0).trans rfl
        have s3_ : W0.cell? ⟨w.heap.size, 1, none⟩ = some (.int .i64 no) := (s1_.cell 1).trans rfl
        have s4_ : W0.cell? ⟨w.heap.size, 2, none⟩ = some (.int .i64 ma) := (s1_.cell 2).trans rfl
        have s5_ : W0.cell? ⟨w.heap.size, 3, none⟩ = some (.int .i64 fe) := (s1_.cell 3).trans rfl
        have s6_ : W0.cell? ⟨w.heap.size, 4, none⟩ = some (.slice C p e2) := (s1_.cell 4).trans rfl
        have s7_ : w.heap.size < W0.heap.size := by rw [hW0]; exact B1.out.lt
        have s8_ : Blk W0 gx 38 #[.string s, .int .i64 no, .int .i64 ma, .int .i64 fe, .slice (some ⟨G2, 0, none⟩) p p] := by rw [hW0]; exact X1.out
        have s9_ : Below wg.heap.size wg W0 := by rw [hW0]; exact kw.out
        have s10_ : BellOwnS W0 Ag L F Gg lo2 := by rw [hW0]; exact gg1.out
        have s11_ : ShareRow W0 (some ⟨G2, 0, none⟩) p ss ms := by rw [hW0]; exact xc1.out
        have s12_ : W0.cell? ⟨gx, 0, none⟩ = some (.string s) := (s8_.cell 0).trans rfl
        have s13_ : W0.cell? ⟨gx, 1, none⟩ = some (.int .i64 no) := (s8_.cell 1).trans rfl
        have s14_ : W0.cell? ⟨gx, 2, none⟩ = some (.int .i64 ma) := (s8_.cell 2).trans rfl
        have s15_ : W0.cell? ⟨gx, 3, none⟩ = some (.int .i64 fe) := (s8_.cell 3).trans rfl
        have s16_ : W0.cell? ⟨gx, 4, none⟩ = some (.slice (some ⟨G2, 0, none⟩) p p) := (s8_.cell 4).trans rfl
        have s17_ : MeltShape W0 (some ⟨lo1, 0, none⟩) m (fun i => (g i).n) lo1 hi1 := by rw [hW0]; exact xs1.out
        have s18_ : BellShape W0 (some ⟨G3, 0, none⟩) n (fun i => (f i).n) lo1 hi1 := by rw [hW0]; exact xq1.out
        have s19_ : ShareShape W0 (some ⟨G2, 0, none⟩) p lo1 hi1 := by rw [hW0]; exact xp1.out
        have s20_ : hi1 ≤ W0.heap.size := by rw [hW0]; exact hhi
        have s21_ : lo2 ≤ W0.heap.size := by rw [hW0]; exact hlo213
        clear k1 B1 X1 kw gg1 xc1 xs1 xq1 xp1 hhi hlo213
        clear hW0
        refine wp_region_held_drew (S := fun w' => Below w.heap.size w w' ∧ Blk w' w.heap.size 26 #[.string s, .int .i64 no, .int .i64 ma, .int .i64 fe, .slice C p e2] ∧ w'.cell? ⟨w.heap.size, 0, none⟩ = some (.string s) ∧ w'.cell? ⟨w.heap.size, 1, none⟩ = some (.int .i64 no) ∧ w'.cell? ⟨w.heap.size, 2, none⟩ = some (.int .i64 ma) ∧ w'.cell? ⟨w.heap.size, 3, none⟩ = some (.int .i64 fe) ∧ w'.cell? ⟨w.heap.size, 4, none⟩ = some (.slice C p e2) ∧ w.heap.size < w'.heap.size ∧ Blk w' gx 38 #[.string s, .int .i64 no, .int .i64 ma, .int .i64 fe, .slice (some ⟨G2, 0, none⟩) p p] ∧ Below wg.heap.size wg w' ∧ BellOwnS w' Ag L F Gg lo2 ∧ ShareRow w' (some ⟨G2, 0, none⟩) p ss ms ∧ w'.cell? ⟨gx, 0, none⟩ = some (.string s) ∧ w'.cell? ⟨gx, 1, none⟩ = some (.int .i64 no) ∧ w'.cell? ⟨gx, 2, none⟩ = some (.int .i64 ma) ∧ w'.cell? ⟨gx, 3, none⟩ = some (.int .i64 fe) ∧ w'.cell? ⟨gx, 4, none⟩ = some (.slice (some ⟨G2, 0, none⟩) p p) ∧ MeltShape w' (some ⟨lo1, 0, none⟩) m (fun i => (g i).n) lo1 hi1 ∧ BellShape w' (some ⟨G3, 0, none⟩) n (fun i => (f i).n) lo1 hi1 ∧ ShareShape w' (some ⟨G2, 0, none⟩) p lo1 hi1 ∧ hi1 ≤ w'.heap.size ∧ lo2 ≤ w'.heap.size) (by kernel_rfl) ?_ (fun hHeld => ?_)
        · exact ⟨s0_.drew, s1_, s2_, s3_, s4_, s5_, s6_, s7_, s8_, s9_.drew, s10_, s11_, s12_, s13_, s14_, s15_, s16_, s17_, s18_, s19_, s20_, s21_⟩
        clear s0_ s1_ s2_ s3_ s4_ s5_ s6_ s7_ s8_ s9_ s10_ s11_ s12_ s13_ s14_ s15_ s16_ s17_ s18_ s19_ s20_ s21_
        refine take_yes (i := 0) (d := 77) (v := ?_) _ rfl rfl (by kernel_rfl) (by kernel_rfl) (by kernel_rfl) (fun _ _ _ _ h => h) (by rfl) ?_ (by assumption) ?_
        rotate_left 1
        · ((intro w hSw; (try dsimp only at hSw); go_simp) <;> (try with_reducible rfl))
        (try simp only [Act.put, List.setIfInBounds_toArray, List.set_cons_zero, List.set_cons_succ])
        refine take_yes (i := 1) (d := 78) (v := ?_) _ rfl rfl (by kernel_rfl) (by kernel_rfl) (by kernel_rfl) (fun _ _ _ _ h => h) (by rfl) ?_ (by assumption) ?_
        rotate_left 1
        · ((intro w hSw; (try dsimp only at hSw); go_simp) <;> (try with_reducible rfl))
        (try simp only [Act.put, List.setIfInBounds_toArray, List.set_cons_zero, List.set_cons_succ])
        (refine wpAnyH_ready (rs := [2]) (by kernel_rfl) (by simp) ?_; refine AllReadyH.cons rfl (fun K hK => ?_) AllReadyH.nil; go_simp; go_at_call 10; refine (toBell_calls _ _ _ _ _ _ _ _ _ _ (ShareRow.keep HR.out (And.left hHeld)) hp2).mono ?_; rintro e wd ⟨GB, rfl, hb, gb1, gb2, hbc⟩; refine hK.out _ _ (by obtain ⟨x0_, x1_, x2_, x3_, x4_, x5_, x6_, x7_, x8_, x9_, x10_, x11_, x12_, x13_, x14_, x15_, x16_, x17_, x18_, x19_, x20_, x21_⟩ := hHeld; exact ⟨x0_.trans (hb.mono x0_.size), x1_.keep hb, cell_keep hb x2_, cell_keep hb x3_, cell_keep hb x4_, cell_keep hb x5_, cell_keep hb x6_, Nat.lt_of_lt_of_le x7_ hb.size, x8_.keep hb, x9_.trans (hb.mono x9_.size), x10_.keep hb, x11_.keep hb, cell_keep hb x12_, cell_keep hb x13_, cell_keep hb x14_, cell_keep hb x15_, cell_keep hb x16_, x17_.kin (Kin.of hb), x18_.kin (Kin.of hb), x19_.kin (Kin.of hb), Nat.le_trans x20_ hb.size, Nat.le_trans x21_ hb.size⟩) (fun hHeld2 => ?_); have hbq := Lib.hid hb; clear hK K hHeld hb; have hHeld := hHeld2; clear hHeld2; (try simp only [Act.put, List.setIfInBounds_toArray, List.set_cons_zero, List.set_cons_succ]))
        (refine wpAnyH_ready (rs := [3]) (by kernel_rfl) (by simp) ?_; refine AllReadyH.cons rfl (fun K hK => ?_) AllReadyH.nil; go_simp; go_at_call 14; refine (eqBell_calls _ _ _ _ _ _ _ _ _ _ _ _ hHeld.2.2.2.2.2.2.2.2.2.2.2.1 hbc hp2).mono ?_; rintro e wd ⟨rfl, hb⟩; refine hK.out _ _ (by obtain ⟨x0_, x1_, x2_, x3_, x4_, x5_, x6_, x7_, x8_, x9_, x10_, x11_, x12_, x13_, x14_, x15_, x16_, x17_, x18_, x19_, x20_, x21_⟩ := hHeld; exact ⟨x0_.trans (hb.mono x0_.size), x1_.keep hb, cell_keep hb x2_, cell_keep hb x3_, cell_keep hb x4_, cell_keep hb x5_, cell_keep hb x6_, Nat.lt_of_lt_of_le x7_ hb.size, x8_.keep hb, x9_.trans (hb.mono x9_.size), x10_.keep hb, x11_.keep hb, cell_keep hb x12_, cell_keep hb x13_, cell_keep hb x14_, cell_keep hb x15_, cell_keep hb x16_, x17_.kin (Kin.of hb), x18_.kin (Kin.of hb), x19_.kin (Kin.of hb), Nat.le_trans x20_ hb.size, Nat.le_trans x21_ hb.size⟩) (fun hHeld2 => ?_); have hbq := Lib.hid hb; clear hK K hHeld hb; have hHeld := hHeld2; clear hHeld2; (try simp only [Act.put, List.setIfInBounds_toArray, List.set_cons_zero, List.set_cons_succ]))
        refine take_yes (i := 4) (d := 81) (v := ?_) _ rfl rfl (by kernel_rfl) (by kernel_rfl) (by kernel_rfl) (fun _ _ _ _ h => h) (by rfl) ?_ (by assumption) ?_
        rotate_left 1
        · ((intro w hSw; (try dsimp only at hSw); go_simp) <;> (try with_reducible rfl))
        (try simp only [Act.put, List.setIfInBounds_toArray, List.set_cons_zero, List.set_cons_succ])
        refine wpAnyH_done (by kernel_rfl) ?_ _
        obtain ⟨z0, z1, z2, z3, z4, z5, z6, z7, z8, z9, z10, z11, z12, z13, z14, z15, z16, z17, z18, z19, z20, z21⟩ := hHeld
        have k1 := Lib.hid z0
        have B1 := Lib.hid z1
        have X1 := Lib.hid z8
        have kw := Lib.hid z9
        have gg1 := Lib.hid z10
        have xs1 := Lib.hid z17
        have xq1 := Lib.hid z18
        have xp1 := Lib.hid z19
        have hhi := z20
        have hlo213 := z21
        clear z0 z1 z2 z3 z4 z5 z6 z7 z8 z9 z10 z11 z12 z13 z14 z15 z16 z17 z18 z19 z20 z21 hbc gb1 gb2
        go_wp2_with fail
        go_at_call 15
        refine (markMeltS_kin _ m _ lo1 hi1 1 _ _ xs1.out hhi hsumM (by omega) (by omega)).mono ?_
        rintro e w14 ⟨rfl, hg⟩
        have hlo2 := Nat.le_trans hlohi hhi
        have hbl := hg.below hlo2
        replace k1 := Lib.hid (k1.out.trans (hbl.mono hlo))
        replace kw := Lib.hid (kw.out.trans (hbl.mono hwlo))
        replace B1 : Hid (Blk _ w.heap.size 26 #[.string s, .int .i64 no, .int .i64 ma, .int .i64 fe, .slice C p e2]) := Lib.hid ((hg.far _ B1.out.lt (by omega)).trans B1.out)
        replace X1 : Hid (Blk _ gx 38 #[.string s, .int .i64 no, .int .i64 ma, .int .i64 fe, .slice (some ⟨G2, 0, none⟩) p p]) := Lib.hid ((hg.far _ X1.out.lt (by omega)).trans X1.out)
        replace gg1 := Lib.hid (gg1.out.far hg hhlo2)
        have hhi2 := Nat.le_trans hhi hg.size
        have xq2 := Lib.hid (xq1.out.kin hg)
        have xp2 := Lib.hid (xp1.out.kin hg)
        have hlo214 := Nat.le_trans hlo213 hg.size
        clear xq1 xp1 xs1 hhi hg hbl hlo2 hlo213
        have hhi := hhi2
        have xq1 := xq2
        have xp1 := xp2
        clear hhi2 xq2 xp2
        obtain ⟨M, hM⟩ : ∃ M : Nat, M = 1 + 2 * m + sumN (fun i => (g i).n) m := ⟨_, rfl⟩
        rw [← hM]
        have hMb : M ≤ 8000000 := by omega
        have hMa : 1 ≤ M := by omega
        clear hM
        go_wp2_with fail
        go_at_call 16
        refine (markBellS_kin _ n _ lo1 hi1 M _ _ xq1.out hhi hsumL hMa (by omega)).mono ?_
        rintro e w15 ⟨rfl, hg⟩
        have hlo2 := Nat.le_trans hlohi hhi
        have hbl := hg.below hlo2
        replace k1 := Lib.hid (k1.out.trans (hbl.mono hlo))
        replace kw := Lib.hid (kw.out.trans (hbl.mono hwlo))
        replace B1 : Hid (Blk _ w.heap.size 26 #[.string s, .int .i64 no, .int .i64 ma, .int .i64 fe, .slice C p e2]) := Lib.hid ((hg.far _ B1.out.lt (by omega)).trans B1.out)
        replace X1 : Hid (Blk _ gx 38 #[.string s, .int .i64 no, .int .i64 ma, .int .i64 fe, .slice (some ⟨G2, 0, none⟩) p p]) := Lib.hid ((hg.far _ X1.out.lt (by omega)).trans X1.out)
        replace gg1 := Lib.hid (gg1.out.far hg hhlo2)
        have hhi2 := Nat.le_trans hhi hg.size
        have xp2 := Lib.hid (xp1.out.kin hg)
        have hlo215 := Nat.le_trans hlo214 hg.size
        clear xq1 xp1 hhi hg hbl hlo2 hlo214
        have hhi := hhi2
        have xp1 := xp2
        clear hhi2 xp2
        obtain ⟨M2, hM2⟩ : ∃ M2 : Nat, M2 = M + 4 * n + 2 * sumN (fun i => (f i).n) n := ⟨_, rfl⟩
        rw [← hM2]
        have hMb2 : M2 ≤ 20000000 := by omega
        have hMa2 : 1 ≤ M2 := by omega
        clear hM2
        have d0 := (X1.out.cell 0).trans rfl
        have d1 := (X1.out.cell 1).trans rfl
        have d2 := (X1.out.cell 2).trans rfl
        have d3 := (X1.out.cell 3).trans rfl
        have d4 := (X1.out.cell 4).trans rfl
        go_wp2_with fail
        go_at_call 17
        refine (markBell_kin s no ma fe _ p p lo1 hi1 M2 _ xp1.out hhi hp2 hMa2 (by omega)).mono ?_
        rintro e w16 ⟨rfl, hg⟩
        clear d0 d1 d2 d3 d4
        have hlo2 := Nat.le_trans hlohi hhi
        have hbl := hg.below hlo2
        replace k1 := Lib.hid (k1.out.trans (hbl.mono hlo))
        replace kw := Lib.hid (kw.out.trans (hbl.mono hwlo))
        replace B1 : Hid (Blk _ w.heap.size 26 #[.string s, .int .i64 no, .int .i64 ma, .int .i64 fe, .slice C p e2]) := Lib.hid ((hg.far _ B1.out.lt (by omega)).trans B1.out)
        replace X1 : Hid (Blk _ gx 38 #[.string s, .int .i64 no, .int .i64 ma, .int .i64 fe, .slice (some ⟨G2, 0, none⟩) p p]) := Lib.hid ((hg.far _ X1.out.lt (by omega)).trans X1.out)
        replace gg1 := Lib.hid (gg1.out.far hg hhlo2)
        have hhi2 := Nat.le_trans hhi hg.size
        have hlo216 := Nat.le_trans hlo215 hg.size
        clear xp1 hhi hg hbl hlo2 X1 hhi2 hlo215
        obtain ⟨M4, hM4⟩ : ∃ M4 : Nat, M4 = M2 + 2 * p := ⟨_, rfl⟩
        rw [← hM4]
        have hMb4 : M4 ≤ 40000000 := by omega
        clear hM4
        go_wp2_with fail
        go_at_call 12
        refine (eqBellS_calls _ _ L _ _ F _ gg1.out.row (gw1.out.keep kw.out) HFN.out (by omega)).mono ?_
        rintro e w17 ⟨rfl, hb⟩
        replace k1 := Lib.hid (k1.out.trans (hb.mono k1.out.size)); replace B1 := Lib.hid (B1.out.keep hb); (try replace kw := Lib.hid (kw.out.trans (hb.mono kw.out.size))); (try replace gg1 := Lib.hid (gg1.out.keep hb))
        have hlo217 := Nat.le_trans hlo216 hb.size
        clear hb hlo216
        go_wp2_with fail
        go_at_call 16
        refine (markBellS_calls _ L _ Gg lo2 1 F _ gg1.out (fun i hi => (HF4.out i hi).1) hlo217 (by omega) (by omega) (by omega)).mono ?_
        rintro e w18 ⟨rfl, hm1, hg⟩
        replace k1 := Lib.hid (k1.out.trans (hg.mono (by omega)))
        replace B1 : Hid (Blk _ w.heap.size 26 #[.string s, .int .i64 no, .int .i64 ma, .int .i64 fe, .slice C p e2]) := Lib.hid ((hg.block _ (by omega)).trans B1.out)
        replace kw := Lib.hid (kw.out.trans (hg.mono (by omega)))
        clear gg1
        have gg1 := Lib.hid hm1
        obtain ⟨M3, hM3⟩ : ∃ M : Nat, M = 1 + 4 * L + 2 * sumN (fun i => (F i).n) L := ⟨_, rfl⟩
        rw [← hM3]
        have HM3 := Lib.hid hM3
        have hMb3 : M3 ≤ 4000000 := by omega
        clear hM3 hg hm1
        go_wp2_with fail
        go_at_call 18
        refine (heldBellS_calls _ L _ 1 F _ gg1.out.row (by omega) (by omega) (by omega)).mono ?_
        rintro e w19 ⟨rfl, hb⟩
        rw [← HM3.out]
        replace k1 := Lib.hid (k1.out.trans (hb.mono k1.out.size)); replace B1 := Lib.hid (B1.out.keep hb); (try replace kw := Lib.hid (kw.out.trans (hb.mono kw.out.size))); (try replace gg1 := Lib.hid (gg1.out.keep hb))
        clear hb
        go_wp2_with fail
        refine wp_gen (fun W0 hW0 => ?_)
        have s0_ : Below w.heap.size w W0 := by rw [hW0]; exact k1.out
        have s1_ : Blk W0 w.heap.size 26 #[.string s, .int .i64 no, .int .i64 ma, .int .i64 fe, .slice C p e2] := by rw [hW0]; exact B1.out
        have s2_ : W0.cell? ⟨w.heap.size, 0, none⟩ = some (.string s) := (s1_.cell 0).trans rfl
        have s3_ : W0.cell? ⟨w.heap.size, 1, none⟩ = some (.int .i64 no) := (s1_.cell 1).trans rfl
        have s4_ : W0.cell? ⟨w.heap.size, 2, none⟩ = some (.int .i64 ma) := (s1_.cell 2).trans rfl
        have s5_ : W0.cell? ⟨w.heap.size, 3, none⟩ = some (.int .i64 fe) := (s1_.cell 3).trans rfl
        have s6_ : W0.cell? ⟨w.heap.size, 4, none⟩ = some (.slice C p e2) := (s1_.cell 4).trans rfl
        have s7_ : w.heap.size < W0.heap.size := by rw [hW0]; exact B1.out.lt
        have s8_ : Below wg.heap.size wg W0 := by rw [hW0]; exact kw.out
        have s9_ : BellOwnS W0 Ag L (mkB 1 F) Gg lo2 := by rw [hW0]; exact gg1.out
        clear k1 B1 kw gg1
        clear hW0
        refine wp_region_held_drew (S := fun w' => Below w.heap.size w w' ∧ Blk w' w.heap.size 26 #[.string s, .int .i64 no, .int .i64 ma, .int .i64 fe, .slice C p e2] ∧ w'.cell? ⟨w.heap.size, 0, none⟩ = some (.string s) ∧ w'.cell? ⟨w.heap.size, 1, none⟩ = some (.int .i64 no) ∧ w'.cell? ⟨w.heap.size, 2, none⟩ = some (.int .i64 ma) ∧ w'.cell? ⟨w.heap.size, 3, none⟩ = some (.int .i64 fe) ∧ w'.cell? ⟨w.heap.size, 4, none⟩ = some (.slice C p e2) ∧ w.heap.size < w'.heap.size ∧ Below wg.heap.size wg w' ∧ BellOwnS w' Ag L (mkB 1 F) Gg lo2) (by kernel_rfl) ?_ (fun hHeld => ?_)
        · exact ⟨s0_.drew, s1_, s2_, s3_, s4_, s5_, s6_, s7_, s8_.drew, s9_⟩
        clear s0_ s1_ s2_ s3_ s4_ s5_ s6_ s7_ s8_ s9_
        refine take_yes (i := 0) (d := 116) (v := ?_) _ rfl rfl (by kernel_rfl) (by kernel_rfl) (by kernel_rfl) (fun _ _ _ _ h => h) (by rfl) ?_ (by assumption) ?_
        rotate_left 1
        · ((intro w hSw; (try dsimp only at hSw); go_simp) <;> (try with_reducible rfl))
        (try simp only [Act.put, List.setIfInBounds_toArray, List.set_cons_zero, List.set_cons_succ])
        refine take_yes (i := 2) (d := 118) (v := ?_) _ rfl rfl (by kernel_rfl) (by kernel_rfl) (by kernel_rfl) (fun _ _ _ _ h => h) (by rfl) ?_ (by assumption) ?_
        rotate_left 1
        · ((intro w hSw; (try dsimp only at hSw); go_simp) <;> (try with_reducible rfl))
        (try simp only [Act.put, List.setIfInBounds_toArray, List.set_cons_zero, List.set_cons_succ])
        refine take_yes (i := 4) (d := 120) (v := ?_) _ rfl rfl (by kernel_rfl) (by kernel_rfl) (by kernel_rfl) (fun _ _ _ _ h => h) (by rfl) ?_ (by assumption) ?_
        rotate_left 1
        · ((intro w hSw; (try dsimp only at hSw); go_simp) <;> (try with_reducible rfl))
        (try simp only [Act.put, List.setIfInBounds_toArray, List.set_cons_zero, List.set_cons_succ])
        (refine wpAnyH_ready (rs := [1]) (by kernel_rfl) (by simp) ?_; refine AllReadyH.cons rfl (fun K hK => ?_) AllReadyH.nil; go_simp; go_at_call 8; refine (toMeltS_calls _ _ _ _ _ (HM.out.keep (And.left hHeld)) HNM.out hm2).mono ?_; rintro e wd ⟨rfl, hb, -, hmc, -⟩; refine hK.out _ _ (by obtain ⟨x0_, x1_, x2_, x3_, x4_, x5_, x6_, x7_, x8_, x9_⟩ := hHeld; exact ⟨x0_.trans (hb.mono x0_.size), x1_.keep hb, cell_keep hb x2_, cell_keep hb x3_, cell_keep hb x4_, cell_keep hb x5_, cell_keep hb x6_, Nat.lt_of_lt_of_le x7_ hb.size, x8_.trans (hb.mono x8_.size), x9_.keep hb⟩) (fun hHeld2 => ?_); (try replace hmc := hmc.keep hb); (try replace hlc := hlc.keep hb); clear hK K hHeld hb; have hHeld := hHeld2; clear hHeld2; (try simp only [Act.put, List.setIfInBounds_toArray, List.set_cons_zero, List.set_cons_succ]))
        (refine wpAnyH_ready (rs := [3]) (by kernel_rfl) (by simp) ?_; refine AllReadyH.cons rfl (fun K hK => ?_) AllReadyH.nil; go_simp; go_at_call 9; refine (toBellS_calls _ _ _ _ _ (HL.out.keep (And.left hHeld)) HNL.out hn2).mono ?_; rintro e wd ⟨rfl, hb, -, hlc⟩; refine hK.out _ _ (by obtain ⟨x0_, x1_, x2_, x3_, x4_, x5_, x6_, x7_, x8_, x9_⟩ := hHeld; exact ⟨x0_.trans (hb.mono x0_.size), x1_.keep hb, cell_keep hb x2_, cell_keep hb x3_, cell_keep hb x4_, cell_keep hb x5_, cell_keep hb x6_, Nat.lt_of_lt_of_le x7_ hb.size, x8_.trans (hb.mono x8_.size), x9_.keep hb⟩) (fun hHeld2 => ?_); (try replace hmc := hmc.keep hb); (try replace hlc := hlc.keep hb); clear hK K hHeld hb; have hHeld := hHeld2; clear hHeld2; (try simp only [Act.put, List.setIfInBounds_toArray, List.set_cons_zero, List.set_cons_succ]))
        (refine wpAnyH_ready (rs := [5]) (by kernel_rfl) (by simp) ?_; refine AllReadyH.cons rfl (fun K hK => ?_) AllReadyH.nil; go_simp; go_at_call 10; refine (toBell_calls _ _ _ _ _ _ _ _ _ _ (ShareRow.keep HR.out (And.left hHeld)) hp2).mono ?_; rintro e wd ⟨GB, rfl, hb, gb1, gb2, hbc⟩; refine hK.out _ _ (by obtain ⟨x0_, x1_, x2_, x3_, x4_, x5_, x6_, x7_, x8_, x9_⟩ := hHeld; exact ⟨x0_.trans (hb.mono x0_.size), x1_.keep hb, cell_keep hb x2_, cell_keep hb x3_, cell_keep hb x4_, cell_keep hb x5_, cell_keep hb x6_, Nat.lt_of_lt_of_le x7_ hb.size, x8_.trans (hb.mono x8_.size), x9_.keep hb⟩) (fun hHeld2 => ?_); (try replace hmc := hmc.keep hb); (try replace hlc := hlc.keep hb); clear hK K hHeld hb; have hHeld := hHeld2; clear hHeld2; (try simp only [Act.put, List.setIfInBounds_toArray, List.set_cons_zero, List.set_cons_succ]))
        (refine wpAnyH_ready (rs := [6]) (by kernel_rfl) (by simp) ?_; refine AllReadyH.cons rfl (fun K hK => ?_) AllReadyH.nil; go_simp; go_at_call 11; refine (CI.out _ _ _ _ _ _ _ (Nat.le_refl _) (Nat.le_refl _) hmc hlc hbc).mono ?_; rintro e wd ⟨Ah, ch, Gh, rfl, hio, hb⟩; refine hK.out _ _ (by obtain ⟨x0_, x1_, x2_, x3_, x4_, x5_, x6_, x7_, x8_, x9_⟩ := hHeld; exact ⟨x0_.trans (hb.mono x0_.size), x1_.keep hb, cell_keep hb x2_, cell_keep hb x3_, cell_keep hb x4_, cell_keep hb x5_, cell_keep hb x6_, Nat.lt_of_lt_of_le x7_ hb.size, x8_.trans (hb.mono x8_.size), x9_.keep hb⟩) (fun hHeld2 => ?_); (try replace hmc := hmc.keep hb); (try replace hlc := hlc.keep hb); clear hK K hHeld hb; have hHeld := hHeld2; clear hHeld2; (try simp only [Act.put, List.setIfInBounds_toArray, List.set_cons_zero, List.set_cons_succ]))
        refine take_yes (i := 7) (d := 115) (v := ?_) _ rfl rfl (by kernel_rfl) (by kernel_rfl) (by kernel_rfl) (fun _ _ _ _ h => h) (by rfl) ?_ (by assumption) ?_
        rotate_left 1
        · ((intro w hSw; (try dsimp only at hSw); go_simp) <;> (try with_reducible rfl))
        (try simp only [Act.put, List.setIfInBounds_toArray, List.set_cons_zero, List.set_cons_succ])
        refine take_yes (i := 8) (d := 123) (v := ?_) _ rfl rfl (by kernel_rfl) (by kernel_rfl) (by kernel_rfl) (fun _ _ _ _ h => h) (by rfl) ?_ (by assumption) ?_
        rotate_left 1
        · ((intro w hSw; (try dsimp only at hSw); go_simp) <;> (try with_reducible rfl))
        (try simp only [Act.put, List.setIfInBounds_toArray, List.set_cons_zero, List.set_cons_succ])
        refine take_yes (i := 9) (d := 124) (v := ?_) _ rfl rfl (by kernel_rfl) (by kernel_rfl) (by kernel_rfl) (fun _ _ _ _ h => h) (by rfl) ?_ (by assumption) ?_
        rotate_left 1
        · ((intro w hSw; (try dsimp only at hSw); go_simp) <;> (try with_reducible rfl))
        (try simp only [Act.put, List.setIfInBounds_toArray, List.set_cons_zero, List.set_cons_succ])
        refine take_yes (i := 10) (d := 18) (v := ?_) _ rfl rfl (by kernel_rfl) (by kernel_rfl) (by kernel_rfl) (fun _ _ _ _ h => h) (by rfl) ?_ (by assumption) ?_
        rotate_left 1
        · ((intro w hSw; (try dsimp only at hSw); go_simp) <;> (try with_reducible rfl))
        (try simp only [Act.put, List.setIfInBounds_toArray, List.set_cons_zero, List.set_cons_succ])
        refine take_yes (i := 11) (d := 19) (v := ?_) _ rfl rfl (by kernel_rfl) (by kernel_rfl) (by kernel_rfl) (fun _ _ _ _ h => h) (by rfl) ?_ (by assumption) ?_
        rotate_left 1
        · ((intro w hSw; (try dsimp only at hSw); go_simp) <;> (try with_reducible rfl))
        (try simp only [Act.put, List.setIfInBounds_toArray, List.set_cons_zero, List.set_cons_succ])
        refine wpAnyH_done (by kernel_rfl) ?_ _
        obtain ⟨z0, z1, z2, z3, z4, z5, z6, z7, z8, z9⟩ := hHeld
        have k1 := Lib.hid z0
        have B1 := Lib.hid z1
        have kw := Lib.hid z8
        have gg1 := Lib.hid z9
        have gh1 := Lib.hid hio.row
        clear z0 z1 z2 z3 z4 z5 z6 z7 z8 z9 hio hmc hlc hbc gb1 gb2 CI
        go_wp2_with fail
        go_at_call 12
        refine (eqBellS_calls _ _ L _ _ F _ gh1.out (gw1.out.keep kw.out) HFN.out (by omega)).mono ?_
        rintro e w21 ⟨rfl, hb⟩
        replace k1 := Lib.hid (k1.out.trans (hb.mono k1.out.size)); replace B1 := Lib.hid (B1.out.keep hb); (try replace kw := Lib.hid (kw.out.trans (hb.mono kw.out.size))); (try replace gg1 := Lib.hid (gg1.out.keep hb))
        clear hb gh1
        go_wp2_with fail
        go_at_call 18
        refine (heldBellS_calls _ L _ 1 F _ gg1.out.row (by omega) (by omega) (by omega)).mono ?_
        rintro e w22 ⟨rfl, hb⟩
        rw [← HM3.out]
        replace k1 := Lib.hid (k1.out.trans (hb.mono k1.out.size)); replace B1 := Lib.hid (B1.out.keep hb); (try replace kw := Lib.hid (kw.out.trans (hb.mono kw.out.size))); (try replace gg1 := Lib.hid (gg1.out.keep hb))
        clear hb
        go_wp2
        go_ret
        exact ⟨rfl, k1.out⟩
theorem own : ownKnob Try.prog.godebug = none := by kernel_rfl
theorem laidOut : laidOutB Try.prog = true := by kernel_rfl
set_option maxRecDepth 100000 in
theorem lifted (os : Os) (started : os.Started) (H : Type) (enc : TypeId × Value → H) :
    ReturnsInHanded {} Try.checked os 3 .any (Rows.fnExactAddBellSpec.pre6 enc Try.prog Try.f3 Rows.fnExactAddBellRow.domain false) (Rows.fnExactAddBellSpec.post enc Try.prog Try.f3 false true false false) := by
  refine returnsInHanded_of_change (C := Try.checked) own started (by kernel_rfl) Try.func3
    (ChangeSpec.witness6 (enc := enc) (C := Try.checked) false ⟨#[], #[.slice none 0 0, .slice none 0 0, .agg #[.string ⟨#[]⟩, .int .i64 0, .int .i64 0, .int .i64 0, .slice none 0 0]], []⟩ 8 (by kernel_rfl) (by kernel_rfl) (by kernel_rfl) (by kernel_rfl)) ?_
  intro W base args ds gs before hval0 hW hcnd _
  have hval : ∀ (j : Nat) t v, Try.f3.params[j]? = some t → args[j]? = some v → Value.okWide Try.prog W .any base t v := hval0
  have hW' := hW
  obtain ⟨p, q, hA0, hV, rfl, hfz, hnd⟩ := hW
  have hA : DataW.TrodAll enc Try.prog W 0 (fun _ => true) true Try.f3.params.toList args.toList ds p := hA0
  rw [Try.params3] at hA hval
  obtain ⟨v0, vs0, d0, ds0, p0, q0, hargs, rfl, rfl, h0, r0⟩ := trodAll_cons hA
  obtain ⟨v1, vs1, d1, ds1, p1, q1, rfl, rfl, rfl, h1, r1⟩ := trodAll_cons r0
  obtain ⟨v2, vs2, d2, ds2, p2, q2, rfl, rfl, rfl, h2, r2⟩ := trodAll_cons r1
  obtain ⟨rfl, rfl, rfl⟩ := trodAll_nil r2
  obtain rfl : args = #[v0, v1, v2] := by cases args; simp_all
  obtain ⟨rfl, rfl⟩ := trodVars_none hV
  have k0 := h0
  have lt0 : ∀ x ∈ p0, x.block < W.heap.size := by obtain ⟨m, hm⟩ := k0; exact DataW.trod_lt m _ _ _ hm
  have k1 := h1
  have lt1 : ∀ x ∈ p1, x.block < W.heap.size := by obtain ⟨m, hm⟩ := k1; exact DataW.trod_lt m _ _ _ hm
  have k2 := h2
  have lt2 : ∀ x ∈ p2, x.block < W.heap.size := by obtain ⟨m, hm⟩ := k2; exact DataW.trod_lt m _ _ _ hm
  obtain ⟨A0, n0, m0, rfl⟩ := okWide_slice Try.underlying22 (hval 0 22 v0 rfl rfl)
  obtain ⟨fu0, hf0⟩ := h0
  obtain ⟨f0, hr0, hn0, hft0⟩ := openMeltS hf0
  obtain ⟨A1, n1, m1, rfl⟩ := okWide_slice Try.underlying23 (hval 1 23 v1 rfl rfl)
  obtain ⟨fu1, hf1⟩ := h1
  obtain ⟨f1, hr1, hn1, hft1⟩ := openBellS hf1
  obtain ⟨cs2, rfl, hz2⟩ := okWide_struct Try.underlying26 (hval 2 26 v2 rfl rfl)
  obtain ⟨l2⟩ := cs2
  obtain ⟨fu2, hf2⟩ := h2
  obtain ⟨hl2, n2, hg2⟩ := fields_of Try.underlying26 (by kernel_rfl) (by kernel_rfl) hf2
  obtain ⟨c2_0, c2_1, c2_2, c2_3, c2_4, rfl⟩ := list5 hl2
  obtain ⟨y2_0, t2_0⟩ := hg2 0 _ rfl c2_0 rfl
  obtain ⟨s2_0, e2_0, _, ws2_0⟩ := DataW.trod_string Try.underlying9 t2_0
  obtain rfl := one_cell e2_0
  obtain ⟨y2_1, t2_1⟩ := hg2 1 _ rfl c2_1 rfl
  obtain ⟨a2_1, e2_1, _, wa2_1⟩ := DataW.trod_int Try.underlying2 t2_1
  obtain rfl := one_cell e2_1
  obtain ⟨y2_2, t2_2⟩ := hg2 2 _ rfl c2_2 rfl
  obtain ⟨a2_2, e2_2, _, wa2_2⟩ := DataW.trod_int Try.underlying2 t2_2
  obtain rfl := one_cell e2_2
  obtain ⟨y2_3, t2_3⟩ := hg2 3 _ rfl c2_3 rfl
  obtain ⟨a2_3, e2_3, _, wa2_3⟩ := DataW.trod_int Try.underlying2 t2_3
  obtain rfl := one_cell e2_3
  obtain ⟨y2_4, t2_4⟩ := hg2 4 _ rfl c2_4 rfl
  obtain ⟨A2_4, n2_4, m2_4, rfl⟩ := slice_cell Try.underlying24 t2_4
  obtain ⟨q2_4_0, q2_4_1, hr2_4, hn2_4, r2_4_0, r2_4_1⟩ := openShareS t2_4
  clear hA0 hval0
  refine (walk A0 n0 m0 f0 A1 n1 m1 f1 s2_0 a2_1 a2_2 a2_3 A2_4 n2_4 m2_4 q2_4_0 q2_4_1 W hr0 hn0 hft0 hr1 hn1 hft1 ws2_0 wa2_1 wa2_2 wa2_3 hr2_4 hn2_4 r2_4_0 r2_4_1).mono fun e W' ⟨he, bel⟩ => ?_
  subst he
  exact ⟨_, rfl, _, _, _, [], _, [], hW', trodAll_mk1 (shut_bool Try.underlying4 _), (trodAll_cons_mk (Below.trod laidOut (by kernel_rfl) (of_decide_eq_true (by kernel_rfl)) k0 bel lt0) (trodAll_cons_mk (Below.trod laidOut (by kernel_rfl) (of_decide_eq_true (by kernel_rfl)) k1 bel lt1) (trodAll_cons_mk (Below.trod laidOut (by kernel_rfl) (of_decide_eq_true (by kernel_rfl)) k2 bel lt2) trodAll_mk0))), rfl, bel.frame _, fun h => by cases h⟩
set_option maxHeartbeats 20000000 in
theorem closed : joinedFacts Try.pinned.checked.prog 3 Try.f3 Rows.fnExactAddBellSpec Rows.fnExactAddBellRow = true := by
  unfold joinedFacts
  simp only [Bool.and_eq_true]
  and_intros
  all_goals (as_aux_lemma => kernel_rfl)
theorem proved : Rows.FnExactAddBellSaid :=
  OpenClaim.holds_of_wide 3 Try.f3 rfl rfl rfl rfl rfl rfl rfl ⟨rfl, rfl, rfl, rfl, rfl⟩ rfl rfl rfl rfl rfl (by kernel_rfl) Try.func3 closed
    (of_decide_eq_true (by kernel_rfl)) (by unfold Func.isWrapper; first | (rw [if_pos (by decide +kernel)]; kernel_rfl) | (rw [if_neg (by decide +kernel)]; exact ⟨rfl, rfl⟩))
    (fun os started H enc _ => lifted os started H enc)
end Go.Proofs.Yticnpibkpfpojaa.FnExactAddBell
