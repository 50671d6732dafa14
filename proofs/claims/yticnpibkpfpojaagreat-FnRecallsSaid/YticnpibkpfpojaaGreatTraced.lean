/- TracedBells, in the program and in the reference. -/
import Derived.Test.YticnpibkpfpojaaGreatPossS
import Derived.Test.YticnpibkpfpojaaGreatEnough

namespace Go.Proofs.YticnpibkpfpojaaGreat
set_option linter.unusedVariables false
open Go.RowKit

noncomputable def trB (s0 : Nat → ByteArray) (a1 a2 a3 a4 : Nat → Int) (n : Nat) (g : Nat → MeltV) (m : Nat) (f : Nat → BellV) (p : Nat) : Bool := okBells f p && (posB s0 a1 a2 a3 a4 n g m && (allKnown (fun q => (g q).id) m f p && suffB g m f p))
theorem ask_all2 {g : Nat → MeltV} {m : Nat} {f : Nat → BellV} {n : Nat} (h : askC g m f n = 0) : okMelts g m = true ∧ okBells f n = true ∧ allKnown (fun q => (g q).id) m f n = true := by
  unfold askC at h
  split at h
  · rename_i h1
    simp only [Bool.and_eq_true] at h1
    split at h
    · rename_i h2; exact ⟨h1.1, h1.2, h2⟩
    · omega
  · omega
theorem posB_of (s0 : Nat → ByteArray) (a1 a2 a3 a4 : Nat → Int) {n : Nat} {g : Nat → MeltV} {m : Nat} (h : posB s0 a1 a2 a3 a4 n g m = true) : okIngs s0 a1 a2 a3 a4 n = true ∧ okMelts g m = true ∧ possB s0 n a1 g m = true := by
  unfold posB at h
  simp only [Bool.and_eq_true] at h
  exact ⟨h.1, h.2.1, h.2.2⟩
set_option maxHeartbeats 4000000 in
theorem TracedBells_calls (A : Option Addr) (n c : Nat) (s0 : Nat → ByteArray) (a1 a2 a3 a4 : Nat → Int) (B : Option Addr) (m d : Nat) (g : Nat → MeltV) (C : Option Addr) (p e2 : Nat) (f : Nat → BellV) (w : World) (h : IngotRow w A n s0 a1 a2 a3 a4) (hsz : ∀ i, i < n → (s0 i).size ≤ maxLen) (hn : n ≤ 1048576) (h2 : MeltRow w B m g) (hm : m ≤ 1048576) (hd : m ≤ d) (hg : ∀ i, i < m → FineM (g i)) (h3 : BellRow w C p f) (hp : p ≤ 1048576) (hf : ∀ i, i < p → Fine (f i)) :
    Calls Tryz.prog 6 #[.slice A n c, .slice B m d, .slice C p e2] w fun e w' => e = .returned (.bool (trB s0 a1 a2 a3 a4 n g m f p)) ∧ Below w.heap.size w w' := by
  have hp2 : p ≤ maxLen := by unfold maxLen; omega
  have KK := Lib.hid (Below.refl w.heap.size w)
  have H := Lib.hid h
  have HZ := Lib.hid hsz
  have HM := Lib.hid h2
  have HG := Lib.hid hg
  have HBL := Lib.hid h3
  have HF := Lib.hid hf
  have HFN := Lib.hid (show ∀ i, i < p → (f i).n ≤ 1048576 from fun i hi => (hf i hi).2.2)
  clear h hsz h2 hg h3 hf
  cases q1 : okBells f p
  · rw [show trB s0 a1 a2 a3 a4 n g m f p = false by simp [trB, q1]]
    go_enter Tryz.func6, Tryz.ntmps6
    go_wp2_with (go_at_call 16; refine (ValidBells_calls C p e2 f _ (HBL.out.keep KK.out) HF.out hp2).mono ?_; rw [show (bellsOk f p && decide ((p : Int) ≤ 24)) = _ from q1]; rintro e w3 ⟨rfl, hb⟩; have K2 := Lib.hid (KK.out.trans (hb.mono KK.out.size)); clear KK hb; have KK := K2; clear K2)
    go_ret
    exact ⟨rfl, KK.out⟩
  · cases q2 : posB s0 a1 a2 a3 a4 n g m
    · rw [show trB s0 a1 a2 a3 a4 n g m f p = false by simp [trB, q2]]
      go_enter Tryz.func6, Tryz.ntmps6
      go_wp2_with (first | (go_at_call 16; refine (ValidBells_calls C p e2 f _ (HBL.out.keep KK.out) HF.out hp2).mono ?_; rw [show (bellsOk f p && decide ((p : Int) ≤ 24)) = _ from q1]; rintro e w3 ⟨rfl, hb⟩; have K2 := Lib.hid (KK.out.trans (hb.mono KK.out.size)); clear KK hb; have KK := K2; clear K2) | (go_at_call 17; refine (PossibleMelts_calls A n c s0 a1 a2 a3 a4 B m d g _ (H.out.below KK.out (Nat.le_refl _)) HZ.out hn (HM.out.keep KK.out) hm hd HG.out).mono ?_; rw [q2]; rintro e w4 ⟨rfl, hb⟩; have K2 := Lib.hid (KK.out.trans (hb.mono KK.out.size)); clear KK hb; have KK := K2; clear K2))
      go_ret
      exact ⟨rfl, KK.out⟩
    · obtain ⟨o1, o2, o3⟩ := posB_of s0 a1 a2 a3 a4 q2
      have HS := Lib.hid (okM_srt o2)
      cases q3 : allKnown (fun q => (g q).id) m f p
      · rw [show trB s0 a1 a2 a3 a4 n g m f p = false by simp [trB, q3]]
        clear o1 o2 o3
        go_enter Tryz.func6, Tryz.ntmps6
        go_wp2_with (first | (go_at_call 16; refine (ValidBells_calls C p e2 f _ (HBL.out.keep KK.out) HF.out hp2).mono ?_; rw [show (bellsOk f p && decide ((p : Int) ≤ 24)) = _ from q1]; rintro e w3 ⟨rfl, hb⟩; have K2 := Lib.hid (KK.out.trans (hb.mono KK.out.size)); clear KK hb; have KK := K2; clear K2) | (go_at_call 17; refine (PossibleMelts_calls A n c s0 a1 a2 a3 a4 B m d g _ (H.out.below KK.out (Nat.le_refl _)) HZ.out hn (HM.out.keep KK.out) hm hd HG.out).mono ?_; rw [q2]; rintro e w4 ⟨rfl, hb⟩; have K2 := Lib.hid (KK.out.trans (hb.mono KK.out.size)); clear KK hb; have KK := K2; clear K2) | (go_at_call 18; refine (haveMelts_calls B m d g C p e2 f _ (HM.out.keep KK.out) hm HS.out (HBL.out.keep KK.out) hp HFN.out).mono ?_; rw [q3]; rintro e w4 ⟨rfl, hb⟩; have K2 := Lib.hid (KK.out.trans (hb.mono KK.out.size)); clear KK hb; have KK := K2; clear K2))
        go_ret
        exact ⟨rfl, KK.out⟩
      · obtain ⟨R, hR⟩ : ∃ R, R = suffB g m f p := ⟨_, rfl⟩
        rw [show trB s0 a1 a2 a3 a4 n g m f p = R by simp [trB, q1, q2, q3, hR]]
        have HR := Lib.hid hR
        have HFEW := Lib.hid (okB_few q1)
        have HMA := Lib.hid (show ∀ i, i < m → 0 ≤ (g i).ma ∧ (g i).ma ≤ 320000000 from fun i hi => okM_ma o2 hi)
        clear hR o1 o2 o3
        cases R
        all_goals
          go_enter Tryz.func6, Tryz.ntmps6
          go_wp2_with (first | (go_at_call 16; refine (ValidBells_calls C p e2 f _ (HBL.out.keep KK.out) HF.out hp2).mono ?_; rw [show (bellsOk f p && decide ((p : Int) ≤ 24)) = _ from q1]; rintro e w3 ⟨rfl, hb⟩; have K2 := Lib.hid (KK.out.trans (hb.mono KK.out.size)); clear KK hb; have KK := K2; clear K2) | (go_at_call 17; refine (PossibleMelts_calls A n c s0 a1 a2 a3 a4 B m d g _ (H.out.below KK.out (Nat.le_refl _)) HZ.out hn (HM.out.keep KK.out) hm hd HG.out).mono ?_; rw [q2]; rintro e w4 ⟨rfl, hb⟩; have K2 := Lib.hid (KK.out.trans (hb.mono KK.out.size)); clear KK hb; have KK := K2; clear K2) | (go_at_call 18; refine (haveMelts_calls B m d g C p e2 f _ (HM.out.keep KK.out) hm HS.out (HBL.out.keep KK.out) hp HFN.out).mono ?_; rw [q3]; rintro e w4 ⟨rfl, hb⟩; have K2 := Lib.hid (KK.out.trans (hb.mono KK.out.size)); clear KK hb; have KK := K2; clear K2) | (go_at_call 19; refine (suffice_calls B m d g C p e2 f _ (HM.out.keep KK.out) hm (HBL.out.keep KK.out) HFEW.out HMA.out).mono ?_; rw [← HR.out]; rintro e w4 ⟨rfl, hb⟩; have K2 := Lib.hid (KK.out.trans (hb.mono KK.out.size)); clear KK hb; have KK := K2; clear K2))
          go_ret
          exact ⟨rfl, KK.out⟩
end Go.Proofs.YticnpibkpfpojaaGreat
