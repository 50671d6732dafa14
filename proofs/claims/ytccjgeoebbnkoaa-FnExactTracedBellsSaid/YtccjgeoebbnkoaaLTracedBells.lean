/- FnExactTracedBells: the program's TracedBells and the reference's give the same of all ingots, melts and bells. No further condition. -/


import Derived.Test.YtccjgeoebbnkoaaRows
import Derived.Test.YtccjgeoebbnkoaaFrame
import Derived.Test.YtccjgeoebbnkoaaTraced
namespace Go.Proofs.Ytccjgeoebbnkoaa.FnExactTracedBells
set_option linter.unusedVariables false
open Go.ChangeShapes Go.WideShapes Go.ChangeAt Go.RowKit Go.Deep
open Go.ChangeMaps (open_string shut_string)
set_option maxHeartbeats 8000000 in
theorem walk (A : Option Addr) (n c : Nat) (s0 : Nat → ByteArray) (a1 a2 a3 a4 : Nat → Int) (B : Option Addr) (m d : Nat) (g : Nat → MeltV) (C : Option Addr) (p e2 : Nat) (f : Nat → BellV) (w : World) (hr : IngotRow w A n s0 a1 a2 a3 a4) (hn : n ≤ maxLen) (hz : ∀ i, i < n → (s0 i).size ≤ maxLen) (_ : ∀ i, i < n → (Lit.int .i64 (a1 i)).wf = true) (_ : ∀ i, i < n → (Lit.int .i64 (a2 i)).wf = true) (_ : ∀ i, i < n → (Lit.int .i64 (a3 i)).wf = true) (_ : ∀ i, i < n → (Lit.int .i64 (a4 i)).wf = true) (hr2 : MeltRow w B m g) (hm : m ≤ maxLen) (hft2 : ∀ i, i < m → FitM (g i)) (hr3 : BellRow w C p f) (hp : p ≤ maxLen) (hft : ∀ i, i < p → Fit (f i)) :
    Calls Try.prog 7 #[.slice A n c, .slice B m d, .slice C p e2] w fun e w' => e = .returned (.bool true) ∧ Below w.heap.size w w' := by
  have HR := Lib.hid hr
  have HZ := Lib.hid hz
  have HM := Lib.hid hr2
  have HFM := Lib.hid hft2
  have HL := Lib.hid hr3
  have HF := Lib.hid hft
  have k1 := Lib.hid (Below.refl w.heap.size w)
  clear hr hz hr2 hft2 hr3 hft
  by_cases hb0 : (1048576 : Int) < (n : Int) + sumS s0 n
  · skip
    go_enter Try.func7, Try.ntmps7
    go_wp2_with fail
    go_at_call 30
    refine (szIngotS_calls _ _ _ s0 a1 a2 a3 a4 _ _ (HR.out.below k1.out (Nat.le_refl _)) HZ.out hn (by omega) (by omega)).mono ?_
    rw [if_pos (by omega)]
    rintro e w1 ⟨rfl, hb⟩
    replace k1 := Lib.hid (k1.out.trans (hb.mono k1.out.size)); (try replace i1 := Lib.hid (i1.out.below hb (Nat.le_refl _))); (try replace x0 := Lib.hid (x0.out.below hb (Nat.le_refl _))); (try replace c1 := Lib.hid (c1.out.keep hb)); (try replace c2 := Lib.hid (c2.out.keep hb)); (try replace x1 := Lib.hid (x1.out.keep hb)); (try replace x2 := Lib.hid (x2.out.keep hb)); clear hb
    go_wp2
    go_ret
    exact ⟨rfl, k1.out⟩
  · obtain ⟨L0, hL0⟩ : ∃ L : Int, L = 1048576 - ((n : Int) + sumS s0 n) := ⟨_, rfl⟩
    have hL00 : 0 ≤ L0 := by omega
    have hL01 : L0 ≤ 1048576 := by omega
    have hn2 : n ≤ 1048576 := by omega
    have HL0 := Lib.hid hL0
    clear hL0
    by_cases hb1 : L0 < (m : Int) + sumM g m
    · skip
      go_enter Try.func7, Try.ntmps7
      go_wp2_with fail
      go_at_call 30
      refine (szIngotS_calls _ _ _ s0 a1 a2 a3 a4 _ _ (HR.out.below k1.out (Nat.le_refl _)) HZ.out hn (by omega) (by omega)).mono ?_
      rw [if_neg (by omega), ← HL0.out]
      rintro e w1 ⟨rfl, hb⟩
      replace k1 := Lib.hid (k1.out.trans (hb.mono k1.out.size)); (try replace i1 := Lib.hid (i1.out.below hb (Nat.le_refl _))); (try replace x0 := Lib.hid (x0.out.below hb (Nat.le_refl _))); (try replace c1 := Lib.hid (c1.out.keep hb)); (try replace c2 := Lib.hid (c2.out.keep hb)); (try replace x1 := Lib.hid (x1.out.keep hb)); (try replace x2 := Lib.hid (x2.out.keep hb)); clear hb
      go_wp2_with fail
      go_at_call 20
      refine (szMeltS_calls _ _ _ _ _ _ (HM.out.keep k1.out) HFM.out hm (by omega) (by omega)).mono ?_
      rw [if_pos (by omega)]
      rintro e w1 ⟨rfl, hb⟩
      replace k1 := Lib.hid (k1.out.trans (hb.mono k1.out.size)); (try replace i1 := Lib.hid (i1.out.below hb (Nat.le_refl _))); (try replace x0 := Lib.hid (x0.out.below hb (Nat.le_refl _))); (try replace c1 := Lib.hid (c1.out.keep hb)); (try replace c2 := Lib.hid (c2.out.keep hb)); (try replace x1 := Lib.hid (x1.out.keep hb)); (try replace x2 := Lib.hid (x2.out.keep hb)); clear hb
      go_wp2
      go_ret
      exact ⟨rfl, k1.out⟩
    · obtain ⟨L, hL⟩ : ∃ L : Int, L = L0 - ((m : Int) + sumM g m) := ⟨_, rfl⟩
      have hL0' : 0 ≤ L := by omega
      have hL1' : L ≤ 1048576 := by omega
      have hm2 : m ≤ 1048576 := by omega
      have HG2 := Lib.hid (fineM_of HFM.out (by omega))
      have HL1 := Lib.hid hL
      clear hL
      by_cases hb2 : L < (p : Int) + sumB f p
      · skip
        go_enter Try.func7, Try.ntmps7
        go_wp2_with fail
        go_at_call 30
        refine (szIngotS_calls _ _ _ s0 a1 a2 a3 a4 _ _ (HR.out.below k1.out (Nat.le_refl _)) HZ.out hn (by omega) (by omega)).mono ?_
        rw [if_neg (by omega), ← HL0.out]
        rintro e w1 ⟨rfl, hb⟩
        replace k1 := Lib.hid (k1.out.trans (hb.mono k1.out.size)); (try replace i1 := Lib.hid (i1.out.below hb (Nat.le_refl _))); (try replace x0 := Lib.hid (x0.out.below hb (Nat.le_refl _))); (try replace c1 := Lib.hid (c1.out.keep hb)); (try replace c2 := Lib.hid (c2.out.keep hb)); (try replace x1 := Lib.hid (x1.out.keep hb)); (try replace x2 := Lib.hid (x2.out.keep hb)); clear hb
        go_wp2_with fail
        go_at_call 20
        refine (szMeltS_calls _ _ _ _ _ _ (HM.out.keep k1.out) HFM.out hm (by omega) (by omega)).mono ?_
        rw [if_neg (by omega), ← HL1.out]
        rintro e w1 ⟨rfl, hb⟩
        replace k1 := Lib.hid (k1.out.trans (hb.mono k1.out.size)); (try replace i1 := Lib.hid (i1.out.below hb (Nat.le_refl _))); (try replace x0 := Lib.hid (x0.out.below hb (Nat.le_refl _))); (try replace c1 := Lib.hid (c1.out.keep hb)); (try replace c2 := Lib.hid (c2.out.keep hb)); (try replace x1 := Lib.hid (x1.out.keep hb)); (try replace x2 := Lib.hid (x2.out.keep hb)); clear hb
        go_wp2_with fail
        go_at_call 11
        refine (szBellS_calls _ _ _ _ _ _ (HL.out.keep k1.out) HF.out hp (by omega) (by omega)).mono ?_
        rw [if_pos (by omega)]
        rintro e w1 ⟨rfl, hb⟩
        replace k1 := Lib.hid (k1.out.trans (hb.mono k1.out.size)); (try replace i1 := Lib.hid (i1.out.below hb (Nat.le_refl _))); (try replace x0 := Lib.hid (x0.out.below hb (Nat.le_refl _))); (try replace c1 := Lib.hid (c1.out.keep hb)); (try replace c2 := Lib.hid (c2.out.keep hb)); (try replace x1 := Lib.hid (x1.out.keep hb)); (try replace x2 := Lib.hid (x2.out.keep hb)); clear hb
        go_wp2
        go_ret
        exact ⟨rfl, k1.out⟩
      · obtain ⟨L2, hL2⟩ : ∃ L2 : Int, L2 = L - ((p : Int) + sumB f p) := ⟨_, rfl⟩
        have hL20 : 0 ≤ L2 := by omega
        have hp2 : p ≤ 1048576 := by omega
        have HG := Lib.hid (fine_of HF.out (by omega))
        have HN := Lib.hid (show ∀ i, i < p → (f i).n ≤ 1048576 from fun i hi => (HG.out i hi).2.2)
        have HNM := Lib.hid (show ∀ i, i < m → (g i).n ≤ 1048576 from fun i hi => (HG2.out i hi).2.2)
        have HL2 := Lib.hid hL2
        clear hL2
        go_enter Try.func7, Try.ntmps7
        go_wp2_with fail
        go_at_call 30
        refine (szIngotS_calls _ _ _ s0 a1 a2 a3 a4 _ _ (HR.out.below k1.out (Nat.le_refl _)) HZ.out hn (by omega) (by omega)).mono ?_
        rw [if_neg (by omega), ← HL0.out]
        rintro e w1 ⟨rfl, hb⟩
        replace k1 := Lib.hid (k1.out.trans (hb.mono k1.out.size)); (try replace i1 := Lib.hid (i1.out.below hb (Nat.le_refl _))); (try replace x0 := Lib.hid (x0.out.below hb (Nat.le_refl _))); (try replace c1 := Lib.hid (c1.out.keep hb)); (try replace c2 := Lib.hid (c2.out.keep hb)); (try replace x1 := Lib.hid (x1.out.keep hb)); (try replace x2 := Lib.hid (x2.out.keep hb)); clear hb
        go_wp2_with fail
        go_at_call 20
        refine (szMeltS_calls _ _ _ _ _ _ (HM.out.keep k1.out) HFM.out hm (by omega) (by omega)).mono ?_
        rw [if_neg (by omega), ← HL1.out]
        rintro e w1 ⟨rfl, hb⟩
        replace k1 := Lib.hid (k1.out.trans (hb.mono k1.out.size)); (try replace i1 := Lib.hid (i1.out.below hb (Nat.le_refl _))); (try replace x0 := Lib.hid (x0.out.below hb (Nat.le_refl _))); (try replace c1 := Lib.hid (c1.out.keep hb)); (try replace c2 := Lib.hid (c2.out.keep hb)); (try replace x1 := Lib.hid (x1.out.keep hb)); (try replace x2 := Lib.hid (x2.out.keep hb)); clear hb
        go_wp2_with fail
        go_at_call 11
        refine (szBellS_calls _ _ _ _ _ _ (HL.out.keep k1.out) HF.out hp (by omega) (by omega)).mono ?_
        rw [if_neg (by omega), ← HL2.out]
        rintro e w1 ⟨rfl, hb⟩
        replace k1 := Lib.hid (k1.out.trans (hb.mono k1.out.size)); (try replace i1 := Lib.hid (i1.out.below hb (Nat.le_refl _))); (try replace x0 := Lib.hid (x0.out.below hb (Nat.le_refl _))); (try replace c1 := Lib.hid (c1.out.keep hb)); (try replace c2 := Lib.hid (c2.out.keep hb)); (try replace x1 := Lib.hid (x1.out.keep hb)); (try replace x2 := Lib.hid (x2.out.keep hb)); clear hb
        go_wp2_with fail
        go_at_call 33
        refine (toIngotS_calls _ _ _ s0 a1 a2 a3 a4 _ (HR.out.below k1.out (Nat.le_refl _)) hn2).mono ?_
        rintro e w2 ⟨rfl, hb, -, hc⟩
        replace k1 := Lib.hid (k1.out.trans (hb.mono k1.out.size)); (try replace i1 := Lib.hid (i1.out.below hb (Nat.le_refl _))); (try replace x0 := Lib.hid (x0.out.below hb (Nat.le_refl _))); (try replace c1 := Lib.hid (c1.out.keep hb)); (try replace c2 := Lib.hid (c2.out.keep hb)); (try replace x1 := Lib.hid (x1.out.keep hb)); (try replace x2 := Lib.hid (x2.out.keep hb)); clear hb
        have i1 := Lib.hid hc
        clear hc
        go_wp2_with fail
        go_at_call 22
        refine (toMeltS_calls _ _ _ _ _ (HM.out.keep k1.out) HNM.out hm2).mono ?_
        rintro e w3 ⟨rfl, hb, -, hc, -⟩
        replace k1 := Lib.hid (k1.out.trans (hb.mono k1.out.size)); (try replace i1 := Lib.hid (i1.out.below hb (Nat.le_refl _))); (try replace x0 := Lib.hid (x0.out.below hb (Nat.le_refl _))); (try replace c1 := Lib.hid (c1.out.keep hb)); (try replace c2 := Lib.hid (c2.out.keep hb)); (try replace x1 := Lib.hid (x1.out.keep hb)); (try replace x2 := Lib.hid (x2.out.keep hb)); clear hb
        have c1 := Lib.hid hc
        clear hc
        go_wp2_with fail
        go_at_call 13
        refine (toBellS_calls _ _ _ _ _ (HL.out.keep k1.out) HN.out hp2).mono ?_
        rintro e w4 ⟨rfl, hb, -, hc⟩
        replace k1 := Lib.hid (k1.out.trans (hb.mono k1.out.size)); (try replace i1 := Lib.hid (i1.out.below hb (Nat.le_refl _))); (try replace x0 := Lib.hid (x0.out.below hb (Nat.le_refl _))); (try replace c1 := Lib.hid (c1.out.keep hb)); (try replace c2 := Lib.hid (c2.out.keep hb)); (try replace x1 := Lib.hid (x1.out.keep hb)); (try replace x2 := Lib.hid (x2.out.keep hb)); clear hb
        have c2 := Lib.hid hc
        clear hc
        go_wp2_with fail
        go_at_call 39
        refine (sTracedBells_calls _ n _ s0 a1 a2 a3 a4 _ m _ g _ p _ f _ i1.out HZ.out hn2 c1.out hm2 HG2.out c2.out hp2 HG.out).mono ?_
        rintro e w5 ⟨rfl, hb⟩
        clear i1 c1 c2
        replace k1 := Lib.hid (k1.out.trans (hb.mono k1.out.size)); (try replace i1 := Lib.hid (i1.out.below hb (Nat.le_refl _))); (try replace x0 := Lib.hid (x0.out.below hb (Nat.le_refl _))); (try replace c1 := Lib.hid (c1.out.keep hb)); (try replace c2 := Lib.hid (c2.out.keep hb)); (try replace x1 := Lib.hid (x1.out.keep hb)); (try replace x2 := Lib.hid (x2.out.keep hb)); clear hb
        go_wp2_with fail
        go_at_call 33
        refine (toIngotS_calls _ _ _ s0 a1 a2 a3 a4 _ (HR.out.below k1.out (Nat.le_refl _)) hn2).mono ?_
        rintro e w6 ⟨rfl, hb, -, hc⟩
        replace k1 := Lib.hid (k1.out.trans (hb.mono k1.out.size)); (try replace i1 := Lib.hid (i1.out.below hb (Nat.le_refl _))); (try replace x0 := Lib.hid (x0.out.below hb (Nat.le_refl _))); (try replace c1 := Lib.hid (c1.out.keep hb)); (try replace c2 := Lib.hid (c2.out.keep hb)); (try replace x1 := Lib.hid (x1.out.keep hb)); (try replace x2 := Lib.hid (x2.out.keep hb)); clear hb
        have x0 := Lib.hid hc
        clear hc
        go_wp2_with fail
        go_at_call 22
        refine (toMeltS_calls _ _ _ _ _ (HM.out.keep k1.out) HNM.out hm2).mono ?_
        rintro e w7 ⟨rfl, hb, -, hc, -⟩
        replace k1 := Lib.hid (k1.out.trans (hb.mono k1.out.size)); (try replace i1 := Lib.hid (i1.out.below hb (Nat.le_refl _))); (try replace x0 := Lib.hid (x0.out.below hb (Nat.le_refl _))); (try replace c1 := Lib.hid (c1.out.keep hb)); (try replace c2 := Lib.hid (c2.out.keep hb)); (try replace x1 := Lib.hid (x1.out.keep hb)); (try replace x2 := Lib.hid (x2.out.keep hb)); clear hb
        have x1 := Lib.hid hc
        clear hc
        go_wp2_with fail
        go_at_call 13
        refine (toBellS_calls _ _ _ _ _ (HL.out.keep k1.out) HN.out hp2).mono ?_
        rintro e w8 ⟨rfl, hb, -, hc⟩
        replace k1 := Lib.hid (k1.out.trans (hb.mono k1.out.size)); (try replace i1 := Lib.hid (i1.out.below hb (Nat.le_refl _))); (try replace x0 := Lib.hid (x0.out.below hb (Nat.le_refl _))); (try replace c1 := Lib.hid (c1.out.keep hb)); (try replace c2 := Lib.hid (c2.out.keep hb)); (try replace x1 := Lib.hid (x1.out.keep hb)); (try replace x2 := Lib.hid (x2.out.keep hb)); clear hb
        have x2 := Lib.hid hc
        clear hc
        go_wp2_with fail
        go_at_call 40
        refine (TracedBells_calls _ n _ s0 a1 a2 a3 a4 _ m _ g _ p _ f _ x0.out HZ.out hn2 x1.out hm2 (Nat.le_refl _) HG2.out x2.out hp2 HG.out).mono ?_
        rintro e w9 ⟨rfl, hb⟩
        replace k1 := Lib.hid (k1.out.trans (hb.mono k1.out.size)); (try replace i1 := Lib.hid (i1.out.below hb (Nat.le_refl _))); (try replace x0 := Lib.hid (x0.out.below hb (Nat.le_refl _))); (try replace c1 := Lib.hid (c1.out.keep hb)); (try replace c2 := Lib.hid (c2.out.keep hb)); (try replace x1 := Lib.hid (x1.out.keep hb)); (try replace x2 := Lib.hid (x2.out.keep hb)); clear hb
        generalize trB s0 a1 a2 a3 a4 n g m f p = RV
        go_wp2_with fail
        go_at_call 33
        refine (toIngotS_calls _ _ _ s0 a1 a2 a3 a4 _ (HR.out.below k1.out (Nat.le_refl _)) hn2).mono ?_
        rintro e w10 ⟨rfl, hb, -, hc⟩
        replace k1 := Lib.hid (k1.out.trans (hb.mono k1.out.size)); (try replace i1 := Lib.hid (i1.out.below hb (Nat.le_refl _))); (try replace x0 := Lib.hid (x0.out.below hb (Nat.le_refl _))); (try replace c1 := Lib.hid (c1.out.keep hb)); (try replace c2 := Lib.hid (c2.out.keep hb)); (try replace x1 := Lib.hid (x1.out.keep hb)); (try replace x2 := Lib.hid (x2.out.keep hb)); clear hb
        have i1 := Lib.hid hc
        clear hc
        go_wp2_with fail
        go_at_call 37
        refine (eqIngotS_calls _ _ _ _ _ s0 a1 a2 a3 a4 _ x0.out i1.out hn2).mono ?_
        rintro e w11 ⟨rfl, hb⟩
        clear i1 x0
        replace k1 := Lib.hid (k1.out.trans (hb.mono k1.out.size)); (try replace i1 := Lib.hid (i1.out.below hb (Nat.le_refl _))); (try replace x0 := Lib.hid (x0.out.below hb (Nat.le_refl _))); (try replace c1 := Lib.hid (c1.out.keep hb)); (try replace c2 := Lib.hid (c2.out.keep hb)); (try replace x1 := Lib.hid (x1.out.keep hb)); (try replace x2 := Lib.hid (x2.out.keep hb)); clear hb
        go_wp2_with fail
        go_at_call 22
        refine (toMeltS_calls _ _ _ _ _ (HM.out.keep k1.out) HNM.out hm2).mono ?_
        rintro e w12 ⟨rfl, hb, -, hc, -⟩
        replace k1 := Lib.hid (k1.out.trans (hb.mono k1.out.size)); (try replace i1 := Lib.hid (i1.out.below hb (Nat.le_refl _))); (try replace x0 := Lib.hid (x0.out.below hb (Nat.le_refl _))); (try replace c1 := Lib.hid (c1.out.keep hb)); (try replace c2 := Lib.hid (c2.out.keep hb)); (try replace x1 := Lib.hid (x1.out.keep hb)); (try replace x2 := Lib.hid (x2.out.keep hb)); clear hb
        have c1 := Lib.hid hc
        clear hc
        go_wp2_with fail
        go_at_call 24
        refine (eqMeltS_calls _ _ _ _ _ _ _ x1.out c1.out HNM.out hm2).mono ?_
        rintro e w13 ⟨rfl, hb⟩
        clear c1 x1
        replace k1 := Lib.hid (k1.out.trans (hb.mono k1.out.size)); (try replace i1 := Lib.hid (i1.out.below hb (Nat.le_refl _))); (try replace x0 := Lib.hid (x0.out.below hb (Nat.le_refl _))); (try replace c1 := Lib.hid (c1.out.keep hb)); (try replace c2 := Lib.hid (c2.out.keep hb)); (try replace x1 := Lib.hid (x1.out.keep hb)); (try replace x2 := Lib.hid (x2.out.keep hb)); clear hb
        go_wp2_with fail
        go_at_call 13
        refine (toBellS_calls _ _ _ _ _ (HL.out.keep k1.out) HN.out hp2).mono ?_
        rintro e w14 ⟨rfl, hb, -, hc⟩
        replace k1 := Lib.hid (k1.out.trans (hb.mono k1.out.size)); (try replace i1 := Lib.hid (i1.out.below hb (Nat.le_refl _))); (try replace x0 := Lib.hid (x0.out.below hb (Nat.le_refl _))); (try replace c1 := Lib.hid (c1.out.keep hb)); (try replace c2 := Lib.hid (c2.out.keep hb)); (try replace x1 := Lib.hid (x1.out.keep hb)); (try replace x2 := Lib.hid (x2.out.keep hb)); clear hb
        have c2 := Lib.hid hc
        clear hc
        go_wp2_with fail
        go_at_call 16
        refine (eqBellS_calls _ _ _ _ _ _ _ x2.out c2.out HN.out hp2).mono ?_
        rintro e w15 ⟨rfl, hb⟩
        replace k1 := Lib.hid (k1.out.trans (hb.mono k1.out.size)); (try replace i1 := Lib.hid (i1.out.below hb (Nat.le_refl _))); (try replace x0 := Lib.hid (x0.out.below hb (Nat.le_refl _))); (try replace c1 := Lib.hid (c1.out.keep hb)); (try replace c2 := Lib.hid (c2.out.keep hb)); (try replace x1 := Lib.hid (x1.out.keep hb)); (try replace x2 := Lib.hid (x2.out.keep hb)); clear hb
        go_wp2
        go_ret
        exact ⟨rfl, k1.out⟩
theorem own : ownKnob Try.prog.godebug = none := by kernel_rfl
theorem laidOut : laidOutB Try.prog = true := by kernel_rfl
set_option maxRecDepth 100000 in
theorem lifted (os : Os) (started : os.Started) (H : Type) (enc : TypeId × Value → H) :
    ReturnsInHanded {} Try.checked os 7 .any (Rows.fnExactTracedBellsSpec.pre6 enc Try.prog Try.f7 Rows.fnExactTracedBellsRow.domain false) (Rows.fnExactTracedBellsSpec.post enc Try.prog Try.f7 false true false false) := by
  refine returnsInHanded_of_change (C := Try.checked) own started (by kernel_rfl) Try.func7
    (ChangeSpec.witness6 (enc := enc) (C := Try.checked) false ⟨#[], #[.slice none 0 0, .slice none 0 0, .slice none 0 0], []⟩ 8 (by kernel_rfl) (by kernel_rfl) (by kernel_rfl) (by kernel_rfl)) ?_
  intro W base args ds gs before hval0 hW hcnd _
  have hval : ∀ (j : Nat) t v, Try.f7.params[j]? = some t → args[j]? = some v → Value.okWide Try.prog W .any base t v := hval0
  have hW' := hW
  obtain ⟨p, q, hA0, hV, rfl, hfz, hnd⟩ := hW
  have hA : DataW.TrodAll enc Try.prog W 0 (fun _ => true) true Try.f7.params.toList args.toList ds p := hA0
  rw [Try.params7] at hA hval
  obtain ⟨v0, vs0, d0, ds0, p0, q0, hargs, rfl, rfl, h0, r0⟩ := trodAll_cons hA
  obtain ⟨v1, vs1, d1, ds1, p1, q1, rfl, rfl, rfl, h1, r1⟩ := trodAll_cons r0
  obtain ⟨v2, vs2, d2, ds2, p2, q2, rfl, rfl, rfl, h2, r2⟩ := trodAll_cons r1
  obtain ⟨rfl, rfl, rfl⟩ := trodAll_nil r2
  obtain rfl : args = #[v0, v1, v2] := by cases args; simp_all
  obtain ⟨rfl, rfl⟩ := trodVars_none hV
  have k0 := h0
  have lt0 : ∀ x ∈ p0, x.block < W.heap.size := by obtain ⟨m, hm⟩ := k0; exact DataW.trod_lt m _ _ _ hm
  have k1 := h1
  have lt1 : ∀ x ∈ p1, x.block < W.heap.size := by obtain ⟨m, hm⟩ := k1; exact DataW.trod_lt m _ _ _ hm
  have k2 := h2
  have lt2 : ∀ x ∈ p2, x.block < W.heap.size := by obtain ⟨m, hm⟩ := k2; exact DataW.trod_lt m _ _ _ hm
  obtain ⟨A0, n0, m0, rfl⟩ := okWide_slice Try.underlying48 (hval 0 48 v0 rfl rfl)
  obtain ⟨fu0, hf0⟩ := h0
  obtain ⟨s0_0, a0_1, a0_2, a0_3, a0_4, hr0, hn0, c0_0, c0_1, c0_2, c0_3, c0_4⟩ := openIngotS hf0
  obtain ⟨A1, n1, m1, rfl⟩ := okWide_slice Try.underlying34 (hval 1 34 v1 rfl rfl)
  obtain ⟨fu1, hf1⟩ := h1
  obtain ⟨f1, hr1, hn1, hft1⟩ := openMeltS hf1
  obtain ⟨A2, n2, m2, rfl⟩ := okWide_slice Try.underlying22 (hval 2 22 v2 rfl rfl)
  obtain ⟨fu2, hf2⟩ := h2
  obtain ⟨f2, hr2, hn2, hft2⟩ := openBellS hf2
  clear hA0 hval0
  refine (walk A0 n0 m0 s0_0 a0_1 a0_2 a0_3 a0_4 A1 n1 m1 f1 A2 n2 m2 f2 W hr0 hn0 c0_0 c0_1 c0_2 c0_3 c0_4 hr1 hn1 hft1 hr2 hn2 hft2).mono fun e W' ⟨he, bel⟩ => ?_
  subst he
  exact ⟨_, rfl, _, _, _, [], _, [], hW', trodAll_mk1 (shut_bool Try.underlying4 _), (trodAll_cons_mk (Below.trod laidOut (by kernel_rfl) (of_decide_eq_true (by kernel_rfl)) k0 bel lt0) (trodAll_cons_mk (Below.trod laidOut (by kernel_rfl) (of_decide_eq_true (by kernel_rfl)) k1 bel lt1) (trodAll_cons_mk (Below.trod laidOut (by kernel_rfl) (of_decide_eq_true (by kernel_rfl)) k2 bel lt2) trodAll_mk0))), rfl, bel.frame _, fun h => by cases h⟩
set_option maxHeartbeats 20000000 in
theorem closed : joinedFacts Try.pinned.checked.prog 7 Try.f7 Rows.fnExactTracedBellsSpec Rows.fnExactTracedBellsRow = true := by
  unfold joinedFacts
  simp only [Bool.and_eq_true]
  and_intros
  all_goals (as_aux_lemma => kernel_rfl)
theorem proved : Rows.FnExactTracedBellsSaid :=
  OpenClaim.holds_of_wide 7 Try.f7 rfl rfl rfl rfl rfl rfl rfl ⟨rfl, rfl, rfl, rfl, rfl⟩ rfl rfl rfl rfl rfl (by kernel_rfl) Try.func7 closed
    (of_decide_eq_true (by kernel_rfl)) (by unfold Func.isWrapper; first | (rw [if_pos (by decide +kernel)]; kernel_rfl) | (rw [if_neg (by decide +kernel)]; exact ⟨rfl, rfl⟩))
    (fun os started H enc _ => lifted os started H enc)
end Go.Proofs.Ytccjgeoebbnkoaa.FnExactTracedBells
