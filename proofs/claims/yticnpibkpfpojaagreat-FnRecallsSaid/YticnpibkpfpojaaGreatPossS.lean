/- Whether melts are possible with ingots: in the reference, and both whole. -/
import Derived.Test.YticnpibkpfpojaaGreatPossM
namespace Go.Proofs.YticnpibkpfpojaaGreat
set_option linter.unusedVariables false
open Go.RowKit

noncomputable def okIngs (s0 : Nat → ByteArray) (a1 a2 a3 a4 : Nat → Int) (n : Nat) : Bool := allB (goodAt (fun i => ingB (s0 i) (a1 i) (a2 i) (a3 i) (a4 i)) s0) n && decide ((n : Int) ≤ 16)
theorem okIngs_srt {s0 : Nat → ByteArray} {a1 a2 a3 a4 : Nat → Int} {n : Nat} (h : okIngs s0 a1 a2 a3 a4 n = true) : Srt s0 n := srt_of fun k hk => by
  unfold okIngs at h
  simp only [Bool.and_eq_true] at h
  have h1 := allB_of h.1 (k + 1) hk
  unfold goodAt at h1
  simp only [Bool.and_eq_true] at h1
  have h2 := h1.2
  show Op.bytesLess (s0 k).toList (s0 (k + 1)).toList = true
  simpa using h2
theorem okIngs_bd {s0 : Nat → ByteArray} {a1 a2 a3 a4 : Nat → Int} {n : Nat} (h : okIngs s0 a1 a2 a3 a4 n = true) : IngB n a1 a3 a4 ∧ n ≤ 16 := by
  unfold okIngs at h
  simp only [Bool.and_eq_true, decide_eq_true_eq] at h
  refine ⟨fun i hi => ?_, by omega⟩
  have h1 := allB_of h.1 i hi
  unfold goodAt at h1
  simp only [Bool.and_eq_true] at h1
  obtain ⟨b1, b2, b3, b4, b5⟩ := ingB_of h1.1
  exact ⟨⟨by omega, by omega⟩, b3, b4⟩
theorem okIngs_pos {s0 : Nat → ByteArray} {a1 a2 a3 a4 : Nat → Int} {n : Nat} (h : okIngs s0 a1 a2 a3 a4 n = true) : ∀ i, i < n → 1 ≤ a1 i := fun i hi => by
  unfold okIngs at h
  simp only [Bool.and_eq_true, decide_eq_true_eq] at h
  have h1 := allB_of h.1 i hi
  unfold goodAt at h1
  simp only [Bool.and_eq_true] at h1
  obtain ⟨b1, b2, b3, b4, b5⟩ := ingB_of h1.1
  exact b1.1
theorem okM_q {g : Nat → MeltV} {m : Nat} (h : okMelts g m = true) : ∀ i, i < m → (g i).n ≤ 16 := fun i hi => by
  unfold okMelts meltsOk at h
  simp only [Bool.and_eq_true] at h
  have h2 := allB_of h.1 i hi
  unfold meltAt' goodAt meltV at h2
  simp only [Bool.and_eq_true, decide_eq_true_eq] at h2
  have := h2.1.1.2.2.1
  omega
theorem allB_and (p q : Nat → Bool) : ∀ m, (allB p m && allB q m) = allB (fun i => p i && q i) m
  | 0 => rfl
  | m + 1 => by
    have ih := allB_and p q m
    simp only [allB]
    rw [← ih]
    cases allB p m <;> cases allB q m <;> cases p m <;> cases q m <;> rfl
def posOne (s0 : Nat → ByteArray) (n : Nat) (a1 : Nat → Int) (x : MeltV) : Bool := allHave s0 n x.ss x.n && !decide (mostV s0 n a1 x.ss x.n < x.ma)
theorem possB_all (s0 : Nat → ByteArray) (n : Nat) (a1 : Nat → Int) (g : Nat → MeltV) (m : Nat) : possB s0 n a1 g m = allB (fun i => posOne s0 n a1 (g i)) m := by
  unfold possB existB anyB
  rw [Bool.not_not, allB_and]
  rfl
noncomputable def posB (s0 : Nat → ByteArray) (a1 a2 a3 a4 : Nat → Int) (n : Nat) (g : Nat → MeltV) (m : Nat) : Bool := okIngs s0 a1 a2 a3 a4 n && (okMelts g m && possB s0 n a1 g m)
set_option maxHeartbeats 4000000 in
theorem PossibleMelts_calls (A : Option Addr) (n c : Nat) (s0 : Nat → ByteArray) (a1 a2 a3 a4 : Nat → Int) (B : Option Addr) (m d : Nat) (g : Nat → MeltV) (w : World) (h : IngotRow w A n s0 a1 a2 a3 a4) (hsz : ∀ i, i < n → (s0 i).size ≤ maxLen) (hn : n ≤ 1048576) (h2 : MeltRow w B m g) (hm : m ≤ 1048576) (hd : m ≤ d) (hg : ∀ i, i < m → FineM (g i)) :
    Calls Tryz.prog 17 #[.slice A n c, .slice B m d] w fun e w' => e = .returned (.bool (posB s0 a1 a2 a3 a4 n g m)) ∧ Below w.heap.size w w' := by
  have hn2 : n ≤ maxLen := by unfold maxLen; omega
  have KK := Lib.hid (Below.refl w.heap.size w)
  have H := Lib.hid h
  have HZ := Lib.hid hsz
  have HM := Lib.hid h2
  have HG := Lib.hid hg
  clear h hsz h2 hg
  cases q1 : okIngs s0 a1 a2 a3 a4 n
  · rw [show posB s0 a1 a2 a3 a4 n g m = false by simp [posB, q1]]
    go_enter Tryz.func17, Tryz.ntmps17
    go_wp2_with (go_at_call 27; refine (impl_ValidIngots_calls A n c s0 a1 a2 a3 a4 _ (H.out.below KK.out (Nat.le_refl _)) HZ.out hn2).mono ?_; rw [show (allB (goodAt (fun i => ingB (s0 i) (a1 i) (a2 i) (a3 i) (a4 i)) s0) n && decide ((n : Int) ≤ 16)) = _ from q1]; rintro e w2 ⟨rfl, hb⟩; have K2 := Lib.hid (KK.out.trans (hb.mono KK.out.size)); clear KK hb; have KK := K2; clear K2)
    go_ret
    exact ⟨rfl, KK.out⟩
  · cases q2 : okMelts g m
    · rw [show posB s0 a1 a2 a3 a4 n g m = false by simp [posB, q2]]
      go_enter Tryz.func17, Tryz.ntmps17
      go_wp2_with (first | (go_at_call 27; refine (impl_ValidIngots_calls A n c s0 a1 a2 a3 a4 _ (H.out.below KK.out (Nat.le_refl _)) HZ.out hn2).mono ?_; rw [show (allB (goodAt (fun i => ingB (s0 i) (a1 i) (a2 i) (a3 i) (a4 i)) s0) n && decide ((n : Int) ≤ 16)) = _ from q1]; rintro e w2 ⟨rfl, hb⟩; have K2 := Lib.hid (KK.out.trans (hb.mono KK.out.size)); clear KK hb; have KK := K2; clear K2) | (go_at_call 32; refine (ValidMelts_calls B m d g _ (HM.out.keep KK.out) HG.out hm hd).mono ?_; rw [q2]; rintro e w3 ⟨rfl, hb⟩; have K2 := Lib.hid (KK.out.trans (hb.mono KK.out.size)); clear KK hb; have KK := K2; clear K2))
      go_ret
      exact ⟨rfl, KK.out⟩
    · obtain ⟨R, hR⟩ : ∃ R, R = possB s0 n a1 g m := ⟨_, rfl⟩
      rw [show posB s0 a1 a2 a3 a4 n g m = R by simp [posB, q1, q2, hR]]
      have HR := Lib.hid hR
      have HS := Lib.hid (okIngs_srt q1)
      have HI := Lib.hid (okIngs_bd q1).1
      have HQ := Lib.hid (okM_q q2)
      clear hR
      cases R
      all_goals
        go_enter Tryz.func17, Tryz.ntmps17
        go_wp2_with (first | (go_at_call 27; refine (impl_ValidIngots_calls A n c s0 a1 a2 a3 a4 _ (H.out.below KK.out (Nat.le_refl _)) HZ.out hn2).mono ?_; rw [show (allB (goodAt (fun i => ingB (s0 i) (a1 i) (a2 i) (a3 i) (a4 i)) s0) n && decide ((n : Int) ≤ 16)) = _ from q1]; rintro e w2 ⟨rfl, hb⟩; have K2 := Lib.hid (KK.out.trans (hb.mono KK.out.size)); clear KK hb; have KK := K2; clear K2) | (go_at_call 32; refine (ValidMelts_calls B m d g _ (HM.out.keep KK.out) HG.out hm hd).mono ?_; rw [q2]; rintro e w3 ⟨rfl, hb⟩; have K2 := Lib.hid (KK.out.trans (hb.mono KK.out.size)); clear KK hb; have KK := K2; clear K2) | (go_at_call 40; refine (possible_calls A n c s0 a1 a2 a3 a4 B m d g _ (H.out.below KK.out (Nat.le_refl _)) hn HS.out (HM.out.keep KK.out) hm HQ.out HI.out).mono ?_; rw [← HR.out]; rintro e w4 ⟨rfl, hb⟩; have K2 := Lib.hid (KK.out.trans (hb.mono KK.out.size)); clear KK hb; have KK := K2; clear K2))
        go_ret
        exact ⟨rfl, KK.out⟩
end Go.Proofs.YticnpibkpfpojaaGreat
