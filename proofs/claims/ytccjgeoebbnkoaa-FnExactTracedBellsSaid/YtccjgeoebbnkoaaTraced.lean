/- TracedBells, in the program and in the reference. -/
import Derived.Test.YtccjgeoebbnkoaaPossS
import Derived.Test.YtccjgeoebbnkoaaEnough

namespace Go.Proofs.Ytccjgeoebbnkoaa
set_option linter.unusedVariables false
open Go.RowKit

noncomputable def trB (s0 : Nat → ByteArray) (a1 a2 a3 a4 : Nat → Int) (n : Nat) (g : Nat → MeltV) (m : Nat) (f : Nat → BellV) (p : Nat) : Bool := okBells f p && (posB s0 a1 a2 a3 a4 n g m && (allKnown (fun q => (g q).id) m f p && suffB g m f p))
theorem ask_all2 {g : Nat → MeltV} {m : Nat} {f : Nat → BellV} {n : Nat} (h : askC g m f n = 0) : okMelts g m = true ∧ okBells f n = true ∧ allKnown (fun q => (g q).id) m f n = true := by
  unfold askC at h
  split at h
  · rename_i h1
    simp only [Bool.and_eq_true] at h1
    split at h
    · rename_i h2; exact ⟨h1.1, h1.2, h2⟩
    · omega
  · omega
theorem posB_of (s0 : Nat → ByteArray) (a1 a2 a3 a4 : Nat → Int) {n : Nat} {g : Nat → MeltV} {m : Nat} (h : posB s0 a1 a2 a3 a4 n g m = true) : okIngs s0 a1 a2 a3 a4 n = true ∧ okMelts g m = true ∧ possB s0 n a1 g m = true := by
  unfold posB at h
  simp only [Bool.and_eq_true] at h
  exact ⟨h.1, h.2.1, h.2.2⟩
set_option maxHeartbeats 4000000 in
theorem TracedBells_calls (A : Option Addr) (n c : Nat) (s0 : Nat → ByteArray) (a1 a2 a3 a4 : Nat → Int) (B : Option Addr) (m d : Nat) (g : Nat → MeltV) (C : Option Addr) (p e2 : Nat) (f : Nat → BellV) (w : World) (h : IngotRow w A n s0 a1 a2 a3 a4) (hsz : ∀ i, i < n → (s0 i).size ≤ maxLen) (hn : n ≤ 1048576) (h2 : MeltRow w B m g) (hm : m ≤ 1048576) (hd : m ≤ d) (hg : ∀ i, i < m → FineM (g i)) (h3 : BellRow w C p f) (hp : p ≤ 1048576) (hf : ∀ i, i < p → Fine (f i)) :
    Calls Try.prog 40 #[.slice A n c, .slice B m d, .slice C p e2] w fun e w' => e = .returned (.bool (trB s0 a1 a2 a3 a4 n g m f p)) ∧ Below w.heap.size w w' := by
  have hp2 : p ≤ maxLen := by unfold maxLen; omega
  have KK := Lib.hid (Below.refl w.heap.size w)
  have H := Lib.hid h
  have HZ := Lib.hid hsz
  have HM := Lib.hid h2
  have HG := Lib.hid hg
  have HBL := Lib.hid h3
  have HF := Lib.hid hf
  have HFN := Lib.hid (show ∀ i, i < p → (f i).n ≤ 1048576 from fun i hi => (hf i hi).2.2)
  clear h hsz h2 hg h3 hf
  cases q1 : okBells f p
  · rw [show trB s0 a1 a2 a3 a4 n g m f p = false by simp [trB, q1]]
    go_enter Try.func40, Try.ntmps40
    go_wp2_with (go_at_call 52; refine (ValidBells_calls C p e2 f _ (HBL.out.keep KK.out) HF.out hp2).mono ?_; rw [show (bellsOk f p && decide ((p : Int) ≤ 24)) = _ from q1]; rintro e w3 ⟨rfl, hb⟩; have K2 := Lib.hid (KK.out.trans (hb.mono KK.out.size)); clear KK hb; have KK := K2; clear K2)
    go_ret
    exact ⟨rfl, KK.out⟩
  · cases q2 : posB s0 a1 a2 a3 a4 n g m
    · rw [show trB s0 a1 a2 a3 a4 n g m f p = false by simp [trB, q2]]
      go_enter Try.func40, Try.ntmps40
      go_wp2_with (first | (go_at_call 52; refine (ValidBells_calls C p e2 f _ (HBL.out.keep KK.out) HF.out hp2).mono ?_; rw [show (bellsOk f p && decide ((p : Int) ≤ 24)) = _ from q1]; rintro e w3 ⟨rfl, hb⟩; have K2 := Lib.hid (KK.out.trans (hb.mono KK.out.size)); clear KK hb; have KK := K2; clear K2) | (go_at_call 89; refine (PossibleMelts_calls A n c s0 a1 a2 a3 a4 B m d g _ (H.out.below KK.out (Nat.le_refl _)) HZ.out hn (HM.out.keep KK.out) hm hd HG.out).mono ?_; rw [q2]; rintro e w4 ⟨rfl, hb⟩; have K2 := Lib.hid (KK.out.trans (hb.mono KK.out.size)); clear KK hb; have KK := K2; clear K2))
      go_ret
      exact ⟨rfl, KK.out⟩
    · obtain ⟨o1, o2, o3⟩ := posB_of s0 a1 a2 a3 a4 q2
      have HS := Lib.hid (okM_srt o2)
      cases q3 : allKnown (fun q => (g q).id) m f p
      · rw [show trB s0 a1 a2 a3 a4 n g m f p = false by simp [trB, q3]]
        clear o1 o2 o3
        go_enter Try.func40, Try.ntmps40
        go_wp2_with (first | (go_at_call 52; refine (ValidBells_calls C p e2 f _ (HBL.out.keep KK.out) HF.out hp2).mono ?_; rw [show (bellsOk f p && decide ((p : Int) ≤ 24)) = _ from q1]; rintro e w3 ⟨rfl, hb⟩; have K2 := Lib.hid (KK.out.trans (hb.mono KK.out.size)); clear KK hb; have KK := K2; clear K2) | (go_at_call 89; refine (PossibleMelts_calls A n c s0 a1 a2 a3 a4 B m d g _ (H.out.below KK.out (Nat.le_refl _)) HZ.out hn (HM.out.keep KK.out) hm hd HG.out).mono ?_; rw [q2]; rintro e w4 ⟨rfl, hb⟩; have K2 := Lib.hid (KK.out.trans (hb.mono KK.out.size)); clear KK hb; have KK := K2; clear K2) | (go_at_call 66; refine (haveMelts_calls B m d g C p e2 f _ (HM.out.keep KK.out) hm HS.out (HBL.out.keep KK.out) hp HFN.out).mono ?_; rw [q3]; rintro e w4 ⟨rfl, hb⟩; have K2 := Lib.hid (KK.out.trans (hb.mono KK.out.size)); clear KK hb; have KK := K2; clear K2))
        go_ret
        exact ⟨rfl, KK.out⟩
      · obtain ⟨R, hR⟩ : ∃ R, R = suffB g m f p := ⟨_, rfl⟩
        rw [show trB s0 a1 a2 a3 a4 n g m f p = R by simp [trB, q1, q2, q3, hR]]
        have HR := Lib.hid hR
        have HFEW := Lib.hid (okB_few q1)
        have HMA := Lib.hid (show ∀ i, i < m → 0 ≤ (g i).ma ∧ (g i).ma ≤ 320000000 from fun i hi => okM_ma o2 hi)
        clear hR o1 o2 o3
        cases R
        all_goals
          go_enter Try.func40, Try.ntmps40
          go_wp2_with (first | (go_at_call 52; refine (ValidBells_calls C p e2 f _ (HBL.out.keep KK.out) HF.out hp2).mono ?_; rw [show (bellsOk f p && decide ((p : Int) ≤ 24)) = _ from q1]; rintro e w3 ⟨rfl, hb⟩; have K2 := Lib.hid (KK.out.trans (hb.mono KK.out.size)); clear KK hb; have KK := K2; clear K2) | (go_at_call 89; refine (PossibleMelts_calls A n c s0 a1 a2 a3 a4 B m d g _ (H.out.below KK.out (Nat.le_refl _)) HZ.out hn (HM.out.keep KK.out) hm hd HG.out).mono ?_; rw [q2]; rintro e w4 ⟨rfl, hb⟩; have K2 := Lib.hid (KK.out.trans (hb.mono KK.out.size)); clear KK hb; have KK := K2; clear K2) | (go_at_call 66; refine (haveMelts_calls B m d g C p e2 f _ (HM.out.keep KK.out) hm HS.out (HBL.out.keep KK.out) hp HFN.out).mono ?_; rw [q3]; rintro e w4 ⟨rfl, hb⟩; have K2 := Lib.hid (KK.out.trans (hb.mono KK.out.size)); clear KK hb; have KK := K2; clear K2) | (go_at_call 90; refine (suffice_calls B m d g C p e2 f _ (HM.out.keep KK.out) hm (HBL.out.keep KK.out) HFEW.out HMA.out).mono ?_; rw [← HR.out]; rintro e w4 ⟨rfl, hb⟩; have K2 := Lib.hid (KK.out.trans (hb.mono KK.out.size)); clear KK hb; have KK := K2; clear K2))
          go_ret
          exact ⟨rfl, KK.out⟩
set_option maxHeartbeats 4000000 in
theorem sPossibleMelts_calls (A : Option Addr) (n c : Nat) (s0 : Nat → ByteArray) (a1 a2 a3 a4 : Nat → Int) (B : Option Addr) (m d : Nat) (g : Nat → MeltV) (w : World) (h : IngotRow w A n s0 a1 a2 a3 a4) (hsz : ∀ i, i < n → (s0 i).size ≤ maxLen) (hn : n ≤ 1048576) (h2 : MeltRow w B m g) (hm : m ≤ 1048576) (hg : ∀ i, i < m → FineM (g i)) :
    Calls Try.prog 87 #[.slice A n c, .slice B m d] w fun e w' => e = .returned (.bool (posB s0 a1 a2 a3 a4 n g m)) ∧ Below w.heap.size w w' := by
  have hn2 : n ≤ maxLen := by unfold maxLen; omega
  have KK := Lib.hid (Below.refl w.heap.size w)
  have H := Lib.hid h
  have HZ := Lib.hid hsz
  have HM := Lib.hid h2
  have HG := Lib.hid hg
  clear h hsz h2 hg
  cases q1 : okIngs s0 a1 a2 a3 a4 n
  · rw [show posB s0 a1 a2 a3 a4 n g m = false by simp [posB, q1]]
    go_enter Try.func87, Try.ntmps87
    go_wp2_with (go_at_call 74; refine (spec_l13Ok_calls A n c s0 a1 a2 a3 a4 _ (H.out.below KK.out (Nat.le_refl _)) HZ.out hn2).mono ?_; rw [show (allB (goodAt (fun i => ingB (s0 i) (a1 i) (a2 i) (a3 i) (a4 i)) s0) n && decide ((n : Int) ≤ 16)) = _ from q1]; rintro e w2 ⟨rfl, hb⟩; have K2 := Lib.hid (KK.out.trans (hb.mono KK.out.size)); clear KK hb; have KK := K2; clear K2)
    go_ret
    exact ⟨rfl, KK.out⟩
  · cases q2 : okMelts g m
    · rw [show posB s0 a1 a2 a3 a4 n g m = false by simp [posB, q2]]
      go_enter Try.func87, Try.ntmps87
      go_wp2_with (first | (go_at_call 74; refine (spec_l13Ok_calls A n c s0 a1 a2 a3 a4 _ (H.out.below KK.out (Nat.le_refl _)) HZ.out hn2).mono ?_; rw [show (allB (goodAt (fun i => ingB (s0 i) (a1 i) (a2 i) (a3 i) (a4 i)) s0) n && decide ((n : Int) ≤ 16)) = _ from q1]; rintro e w2 ⟨rfl, hb⟩; have K2 := Lib.hid (KK.out.trans (hb.mono KK.out.size)); clear KK hb; have KK := K2; clear K2) | (go_at_call 75; refine (l14Ok_calls B m d g _ (HM.out.keep KK.out) HG.out hm).mono ?_; rw [q2]; rintro e w3 ⟨rfl, nd, rfl⟩; have K2 := Lib.hid (below_drewN KK.out nd); clear KK; have KK := K2; clear K2))
      go_ret
      exact ⟨rfl, KK.out⟩
    · obtain ⟨R, hR⟩ : ∃ R, R = possB s0 n a1 g m := ⟨_, rfl⟩
      rw [show posB s0 a1 a2 a3 a4 n g m = R by simp [posB, q1, q2, hR]]
      have HR := Lib.hid hR
      have HS := Lib.hid (okIngs_srt q1)
      have HI := Lib.hid (okIngs_bd q1).1
      have HQ := Lib.hid (okM_q q2)
      clear hR
      cases R
      all_goals
        go_enter Try.func87, Try.ntmps87
        go_wp2_with (first | (go_at_call 74; refine (spec_l13Ok_calls A n c s0 a1 a2 a3 a4 _ (H.out.below KK.out (Nat.le_refl _)) HZ.out hn2).mono ?_; rw [show (allB (goodAt (fun i => ingB (s0 i) (a1 i) (a2 i) (a3 i) (a4 i)) s0) n && decide ((n : Int) ≤ 16)) = _ from q1]; rintro e w2 ⟨rfl, hb⟩; have K2 := Lib.hid (KK.out.trans (hb.mono KK.out.size)); clear KK hb; have KK := K2; clear K2) | (go_at_call 75; refine (l14Ok_calls B m d g _ (HM.out.keep KK.out) HG.out hm).mono ?_; rw [q2]; rintro e w3 ⟨rfl, nd, rfl⟩; have K2 := Lib.hid (below_drewN KK.out nd); clear KK; have KK := K2; clear K2) | (go_at_call 130; refine (sPossible_calls A n c s0 a1 a2 a3 a4 B m d g _ (H.out.below KK.out (Nat.le_refl _)) hn HS.out (HM.out.keep KK.out) hm HQ.out HI.out).mono ?_; rw [← HR.out]; rintro e w4 ⟨rfl, hb⟩; have K2 := Lib.hid (KK.out.trans (hb.mono KK.out.size)); clear KK hb; have KK := K2; clear K2))
        go_ret
        exact ⟨rfl, KK.out⟩
set_option maxHeartbeats 4000000 in
theorem sTracedBells_calls (A : Option Addr) (n c : Nat) (s0 : Nat → ByteArray) (a1 a2 a3 a4 : Nat → Int) (B : Option Addr) (m d : Nat) (g : Nat → MeltV) (C : Option Addr) (p e2 : Nat) (f : Nat → BellV) (w : World) (h : IngotRow w A n s0 a1 a2 a3 a4) (hsz : ∀ i, i < n → (s0 i).size ≤ maxLen) (hn : n ≤ 1048576) (h2 : MeltRow w B m g) (hm : m ≤ 1048576) (hg : ∀ i, i < m → FineM (g i)) (h3 : BellRow w C p f) (hp : p ≤ 1048576) (hf : ∀ i, i < p → Fine (f i)) :
    Calls Try.prog 39 #[.slice A n c, .slice B m d, .slice C p e2] w fun e w' => e = .returned (.bool (trB s0 a1 a2 a3 a4 n g m f p)) ∧ Below w.heap.size w w' := by
  have KK := Lib.hid (Below.refl w.heap.size w)
  have H := Lib.hid h
  have HZ := Lib.hid hsz
  have HM := Lib.hid h2
  have HG := Lib.hid hg
  have HBL := Lib.hid h3
  have HF := Lib.hid hf
  clear h hsz h2 hg h3 hf
  cases q2 : posB s0 a1 a2 a3 a4 n g m
  · rw [show trB s0 a1 a2 a3 a4 n g m f p = false by simp [trB, q2]]
    go_enter Try.func39, Try.ntmps39
    go_wp2_with (go_at_call 87; refine (sPossibleMelts_calls A n c s0 a1 a2 a3 a4 B m d g _ (H.out.below KK.out (Nat.le_refl _)) HZ.out hn (HM.out.keep KK.out) hm HG.out).mono ?_; rw [q2]; rintro e w4 ⟨rfl, hb⟩; have K2 := Lib.hid (KK.out.trans (hb.mono KK.out.size)); clear KK hb; have KK := K2; clear K2)
    go_ret
    exact ⟨rfl, KK.out⟩
  · obtain ⟨o1, o2, o3⟩ := posB_of s0 a1 a2 a3 a4 q2
    by_cases h0 : askC g m f p = 0
    · obtain ⟨a1', a2', a3'⟩ := ask_all2 h0
      obtain ⟨R, hR⟩ : ∃ R, R = suffB g m f p := ⟨_, rfl⟩
      rw [show trB s0 a1 a2 a3 a4 n g m f p = R by simp [trB, a2', q2, a3', hR]]
      have HR := Lib.hid hR
      have HCC := Lib.hid h0
      have HFEW := Lib.hid (okB_few a2')
      clear hR o1 o2 o3 a1' a2' a3' h0
      cases R
      all_goals
        go_enter Try.func39, Try.ntmps39
        go_wp2_with (first | (go_at_call 87; refine (sPossibleMelts_calls A n c s0 a1 a2 a3 a4 B m d g _ (H.out.below KK.out (Nat.le_refl _)) HZ.out hn (HM.out.keep KK.out) hm HG.out).mono ?_; rw [q2]; rintro e w4 ⟨rfl, hb⟩; have K2 := Lib.hid (KK.out.trans (hb.mono KK.out.size)); clear KK hb; have KK := K2; clear K2) | (go_at_call 60; refine (l18Ask_calls B m d g C p e2 f _ (HM.out.keep KK.out) hm HG.out (HBL.out.keep KK.out) hp HF.out).mono ?_; rw [HCC.out]; rintro e w3 ⟨rfl, nd, rfl⟩; have K2 := Lib.hid (below_drewN KK.out nd); clear KK; have KK := K2; clear K2) | (go_at_call 88; refine (sEnough_calls B m d g C p e2 f _ (HM.out.keep KK.out) hm (HBL.out.keep KK.out) HFEW.out).mono ?_; rw [← HR.out]; rintro e w4 ⟨rfl, hb⟩; have K2 := Lib.hid (KK.out.trans (hb.mono KK.out.size)); clear KK hb; have KK := K2; clear K2))
        go_ret
        exact ⟨rfl, KK.out⟩
    · have ht : trB s0 a1 a2 a3 a4 n g m f p = false := by
        cases ht : trB s0 a1 a2 a3 a4 n g m f p
        · rfl
        · exfalso
          apply h0
          unfold trB at ht
          simp only [Bool.and_eq_true] at ht
          simp [askC, o2, ht.1, ht.2.2.1]
      rw [ht]
      obtain ⟨Z, hZ⟩ : ∃ Z, Z = askC g m f p := ⟨_, rfl⟩
      have HCC := Lib.hid hZ.symm
      rw [← hZ] at h0
      have hne : (Z == 0) = false := by simpa using h0
      clear hZ ht o1 o2 o3
      go_enter Try.func39, Try.ntmps39
      go_wp2_with (first | (go_at_call 87; refine (sPossibleMelts_calls A n c s0 a1 a2 a3 a4 B m d g _ (H.out.below KK.out (Nat.le_refl _)) HZ.out hn (HM.out.keep KK.out) hm HG.out).mono ?_; rw [q2]; rintro e w4 ⟨rfl, hb⟩; have K2 := Lib.hid (KK.out.trans (hb.mono KK.out.size)); clear KK hb; have KK := K2; clear K2) | (go_at_call 60; refine (l18Ask_calls B m d g C p e2 f _ (HM.out.keep KK.out) hm HG.out (HBL.out.keep KK.out) hp HF.out).mono ?_; rw [HCC.out]; rintro e w3 ⟨rfl, nd, rfl⟩; have K2 := Lib.hid (below_drewN KK.out nd); clear KK; have KK := K2; clear K2))
      go_ret
      exact ⟨rfl, KK.out⟩
end Go.Proofs.Ytccjgeoebbnkoaa
