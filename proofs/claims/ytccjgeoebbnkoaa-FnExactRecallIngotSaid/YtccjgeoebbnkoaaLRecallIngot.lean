/- FnExactRecallIngot: the program's RecallIngot and the reference's give the same of all melts, all bells and every text. No further condition. -/



import Derived.Test.YtccjgeoebbnkoaaRows
import Derived.Test.YtccjgeoebbnkoaaFrame
import Derived.Test.YtccjgeoebbnkoaaRecallI
namespace Go.Proofs.Ytccjgeoebbnkoaa.FnExactRecallIngot
set_option linter.unusedVariables false
open Go.ChangeShapes Go.WideShapes Go.ChangeAt Go.RowKit Go.Deep
open Go.ChangeMaps (open_string shut_string)
theorem sumN_sumB (f : Nat → BellV) : ∀ n, sumN (fun i => (f i).n) n ≤ sumB f n
  | 0 => Nat.le_refl _
  | n + 1 => by
    have := sumN_sumB f n
    have e1 : sumN (fun i => (f i).n) (n + 1) = sumN (fun i => (f i).n) n + (f n).n := rfl
    have e2 : sumB f (n + 1) = sumB f n + bellSz (f n) := rfl
    unfold bellSz at e2
    omega
theorem MeltShape.mono {w : World} {A : Option Addr} {n lo hi lo2 hi2 : Nat} {ns : Nat → Nat} (h : MeltShape w A n ns lo hi) (h1 : lo2 ≤ lo) (h2 : hi ≤ hi2) : MeltShape w A n ns lo2 hi2 := fun hn => by
  obtain ⟨g, T, arr, hA, l1, l2, hb, ha⟩ := h hn
  exact ⟨g, T, arr, hA, by omega, by omega, hb, fun i hi => by
    obtain ⟨a, b, A2, c2, e, hsh⟩ := ha i hi
    exact ⟨a, b, A2, c2, e, fun h0 => by
      obtain ⟨g, T, arr, hA, l1, l2, hb, ha⟩ := hsh h0
      exact ⟨g, T, arr, hA, by omega, by omega, hb, ha⟩⟩⟩
theorem BellShape.mono {w : World} {A : Option Addr} {n lo hi lo2 hi2 : Nat} {ns : Nat → Nat} (h : BellShape w A n ns lo hi) (h1 : lo2 ≤ lo) (h2 : hi ≤ hi2) : BellShape w A n ns lo2 hi2 := fun hn => by
  obtain ⟨g, T, arr, hA, l1, l2, hb, ha⟩ := h hn
  exact ⟨g, T, arr, hA, by omega, by omega, hb, fun i hi => by
    obtain ⟨a0, a1, a2, a3, A2, c2, e, hsh⟩ := ha i hi
    exact ⟨a0, a1, a2, a3, A2, c2, e, fun h0 => by
      obtain ⟨g, T, arr, hA, l1, l2, hb, ha⟩ := hsh h0
      exact ⟨g, T, arr, hA, by omega, by omega, hb, ha⟩⟩⟩
theorem both (m d : Nat) (g : Nat → MeltV) (n : Nat) (f : Nat → BellV) (s : ByteArray) (hm : m ≤ 1048576) (hg : ∀ i, i < m → FineM (g i)) (hn : n ≤ 1048576) (hf : ∀ i, i < n → Fine (f i)) : ∃ (L : Nat) (S : Nat → ByteArray) (code : Int), L ≤ n ∧
    (∀ W B d A c, MeltRow W B m g → BellRow W A n f → Calls Try.prog 48 #[.slice B m d, .slice A n c, .string s] W fun e w' => ∃ v, e = .returned (.tuple #[v, .int .i64 code]) ∧ StrsOut W L S v w') ∧
    (∀ W B d A c, m ≤ d → MeltRow W B m g → BellRow W A n f → Calls Try.prog 49 #[.slice B m d, .slice A n c, .string s] W fun e w' => ∃ v, e = .returned (.tuple #[v, .int .i64 code]) ∧ StrsOut W L S v w') :=
  ⟨_, _, _, riN_le g m f n s, fun W B d A c h1 h2 => sRecallIngot_calls B m d g A n c f s W h1 hm hg h2 hn hf, fun W B d A c hd h1 h2 => RecallIngot_calls B m d g A n c f s W h1 hm hd hg h2 hn hf⟩
set_option maxHeartbeats 8000000 in
theorem walk (B : Option Addr) (m d : Nat) (g : Nat → MeltV) (A : Option Addr) (n c : Nat) (f : Nat → BellV) (s : ByteArray) (w : World) (hr2 : MeltRow w B m g) (hm : m ≤ maxLen) (hft2 : ∀ i, i < m → FitM (g i)) (hr : BellRow w A n f) (hn : n ≤ maxLen) (hft : ∀ i, i < n → Fit (f i)) (hs : s.size ≤ maxLen) :
    Calls Try.prog 10 #[.slice B m d, .slice A n c, .string s] w fun e w' => e = .returned (.bool true) ∧ Below w.heap.size w w' := by
  unfold maxLen at hs
  have HFM := Lib.hid hft2
  have HF := Lib.hid hft
  have HR := Lib.hid hr
  have HM := Lib.hid hr2
  have k1 := Lib.hid (Below.refl w.heap.size w)
  clear hr hft hr2 hft2
  by_cases h0 : (1048576 : Int) < s.size
  · go_enter Try.func10, Try.ntmps10
    go_wp2
    go_ret
    exact ⟨rfl, Below.refl _ _⟩
  · by_cases hb1 : (1048576 : Int) < (m : Int) + sumM g m
    · go_enter Try.func10, Try.ntmps10
      go_wp2_with (go_at_call 20; refine (szMeltS_calls _ _ _ _ _ _ (HM.out.keep k1.out) HFM.out hm (by omega) (by omega)).mono ?_; rw [if_pos hb1]; rintro e w1 ⟨rfl, hb⟩; replace k1 := Lib.hid (k1.out.trans (hb.mono k1.out.size)); (try replace gw1 := Lib.hid (gw1.out.keep hb)); (try replace gg1 := Lib.hid (gg1.out.keep hb)); (try replace xr1 := Lib.hid (xr1.out.keep hb)); (try replace xs1 := Lib.hid (xs1.out.kin (Kin.of hb))); (try replace xb1 := Lib.hid (xb1.out.keep hb)); (try replace xq1 := Lib.hid (xq1.out.kin (Kin.of hb))); (try have hhi2 := Nat.le_trans hhi hb.size); (try clear hhi); (try have hhi := hhi2); (try clear hhi2); clear hb)
      go_ret
      exact ⟨rfl, k1.out⟩
    · obtain ⟨L0, hL⟩ : ∃ L : Int, L = 1048576 - ((m : Int) + sumM g m) := ⟨_, rfl⟩
      have hL0 : 0 ≤ L0 := by omega
      have hL1 : L0 ≤ 1048576 := by omega
      have hm2 : m ≤ 1048576 := by omega
      have hsumM : m + sumN (fun i => (g i).n) m ≤ 1048576 := by have := sumN_sumM g m; omega
      have HG2 := Lib.hid (fineM_of HFM.out (by omega))
      have HL := Lib.hid hL
      clear hL
      by_cases hbig : L0 < (n : Int) + sumB f n
      · go_enter Try.func10, Try.ntmps10
        go_wp2_with fail
        go_at_call 20
        refine (szMeltS_calls _ _ _ _ _ _ (HM.out.keep k1.out) HFM.out hm (by omega) (by omega)).mono ?_
        rw [if_neg (by omega), ← HL.out]
        rintro e w1 ⟨rfl, hb⟩
        replace k1 := Lib.hid (k1.out.trans (hb.mono k1.out.size)); (try replace gw1 := Lib.hid (gw1.out.keep hb)); (try replace gg1 := Lib.hid (gg1.out.keep hb)); (try replace xr1 := Lib.hid (xr1.out.keep hb)); (try replace xs1 := Lib.hid (xs1.out.kin (Kin.of hb))); (try replace xb1 := Lib.hid (xb1.out.keep hb)); (try replace xq1 := Lib.hid (xq1.out.kin (Kin.of hb))); (try have hhi2 := Nat.le_trans hhi hb.size); (try clear hhi); (try have hhi := hhi2); (try clear hhi2)
        clear hb
        go_wp2_with (go_at_call 11; refine (szBellS_calls _ _ _ _ _ _ (HR.out.keep k1.out) HF.out hn (by omega) (by omega)).mono ?_; rw [if_pos (by omega)]; rintro e w1 ⟨rfl, hb⟩; replace k1 := Lib.hid (k1.out.trans (hb.mono k1.out.size)); (try replace gw1 := Lib.hid (gw1.out.keep hb)); (try replace gg1 := Lib.hid (gg1.out.keep hb)); (try replace xr1 := Lib.hid (xr1.out.keep hb)); (try replace xs1 := Lib.hid (xs1.out.kin (Kin.of hb))); (try replace xb1 := Lib.hid (xb1.out.keep hb)); (try replace xq1 := Lib.hid (xq1.out.kin (Kin.of hb))); (try have hhi2 := Nat.le_trans hhi hb.size); (try clear hhi); (try have hhi := hhi2); (try clear hhi2); clear hb)
        go_ret
        exact ⟨rfl, k1.out⟩
      · have hn2 : n ≤ 1048576 := by omega
        have hsum : n + sumN (fun i => (f i).n) n ≤ 1048576 := by have := sumN_sumB f n; omega
        obtain ⟨L2, hL2⟩ : ∃ L2 : Int, L2 = L0 - ((n : Int) + sumB f n) := ⟨_, rfl⟩
        have hL20 : 0 ≤ L2 := by omega
        have HL2 := Lib.hid hL2
        have HG := Lib.hid (fine_of HF.out (by omega))
        have HN := Lib.hid (show ∀ i, i < n → (f i).n ≤ 1048576 from fun i hi => (HG.out i hi).2.2)
        have HNM := Lib.hid (show ∀ i, i < m → (g i).n ≤ 1048576 from fun i hi => (HG2.out i hi).2.2)
        obtain ⟨L, S, code, hLn, hcs, hci⟩ := both m d g n f s hm2 HG2.out hn2 HG.out
        have CS := Lib.hid hcs
        have CI := Lib.hid hci
        have hL : L ≤ 1048576 := by omega
        clear hL2 hcs hci
        go_enter Try.func10, Try.ntmps10
        go_wp2_with fail
        go_at_call 20
        refine (szMeltS_calls _ _ _ _ _ _ (HM.out.keep k1.out) HFM.out hm (by omega) (by omega)).mono ?_
        rw [if_neg (by omega), ← HL.out]
        rintro e w1 ⟨rfl, hb⟩
        replace k1 := Lib.hid (k1.out.trans (hb.mono k1.out.size)); (try replace gw1 := Lib.hid (gw1.out.keep hb)); (try replace gg1 := Lib.hid (gg1.out.keep hb)); (try replace xr1 := Lib.hid (xr1.out.keep hb)); (try replace xs1 := Lib.hid (xs1.out.kin (Kin.of hb))); (try replace xb1 := Lib.hid (xb1.out.keep hb)); (try replace xq1 := Lib.hid (xq1.out.kin (Kin.of hb))); (try have hhi2 := Nat.le_trans hhi hb.size); (try clear hhi); (try have hhi := hhi2); (try clear hhi2)
        clear hb
        go_wp2_with fail
        go_at_call 11
        refine (szBellS_calls _ _ _ _ _ _ (HR.out.keep k1.out) HF.out hn (by omega) (by omega)).mono ?_
        rw [if_neg (by omega), ← HL2.out]
        rintro e w1 ⟨rfl, hb⟩
        replace k1 := Lib.hid (k1.out.trans (hb.mono k1.out.size)); (try replace gw1 := Lib.hid (gw1.out.keep hb)); (try replace gg1 := Lib.hid (gg1.out.keep hb)); (try replace xr1 := Lib.hid (xr1.out.keep hb)); (try replace xs1 := Lib.hid (xs1.out.kin (Kin.of hb))); (try replace xb1 := Lib.hid (xb1.out.keep hb)); (try replace xq1 := Lib.hid (xq1.out.kin (Kin.of hb))); (try have hhi2 := Nat.le_trans hhi hb.size); (try clear hhi); (try have hhi := hhi2); (try clear hhi2)
        clear hb
        go_wp2_with fail
        go_at_call 22
        refine (toMeltS_calls _ _ _ _ _ (HM.out.keep k1.out) HNM.out hm2).mono ?_
        rintro e w2 ⟨rfl, hb, -, hc, -⟩
        have c0 := Lib.hid hc
        replace k1 := Lib.hid (k1.out.trans (hb.mono k1.out.size)); (try replace gw1 := Lib.hid (gw1.out.keep hb)); (try replace gg1 := Lib.hid (gg1.out.keep hb)); (try replace xr1 := Lib.hid (xr1.out.keep hb)); (try replace xs1 := Lib.hid (xs1.out.kin (Kin.of hb))); (try replace xb1 := Lib.hid (xb1.out.keep hb)); (try replace xq1 := Lib.hid (xq1.out.kin (Kin.of hb))); (try have hhi2 := Nat.le_trans hhi hb.size); (try clear hhi); (try have hhi := hhi2); (try clear hhi2)
        clear hb hc
        go_wp2_with fail
        go_at_call 13
        refine (toBellS_calls _ _ _ _ _ (HR.out.keep k1.out) HN.out hn2).mono ?_
        rintro e w2b ⟨rfl, hb, -, hc⟩
        have c1 := Lib.hid hc
        replace c0 := Lib.hid (c0.out.keep hb)
        replace k1 := Lib.hid (k1.out.trans (hb.mono k1.out.size)); (try replace gw1 := Lib.hid (gw1.out.keep hb)); (try replace gg1 := Lib.hid (gg1.out.keep hb)); (try replace xr1 := Lib.hid (xr1.out.keep hb)); (try replace xs1 := Lib.hid (xs1.out.kin (Kin.of hb))); (try replace xb1 := Lib.hid (xb1.out.keep hb)); (try replace xq1 := Lib.hid (xq1.out.kin (Kin.of hb))); (try have hhi2 := Nat.le_trans hhi hb.size); (try clear hhi); (try have hhi := hhi2); (try clear hhi2)
        clear hb hc
        go_wp2_with fail
        go_at_call 48
        refine (CS.out _ _ _ _ _ c0.out c1.out).mono ?_
        rintro e w3 ⟨v, rfl, Aw, cw, Gw, rfl, hio, hGw, hb⟩
        replace k1 := Lib.hid (k1.out.trans (hb.mono k1.out.size)); (try replace gw1 := Lib.hid (gw1.out.keep hb)); (try replace gg1 := Lib.hid (gg1.out.keep hb)); (try replace xr1 := Lib.hid (xr1.out.keep hb)); (try replace xs1 := Lib.hid (xs1.out.kin (Kin.of hb))); (try replace xb1 := Lib.hid (xb1.out.keep hb)); (try replace xq1 := Lib.hid (xq1.out.kin (Kin.of hb))); (try have hhi2 := Nat.le_trans hhi hb.size); (try clear hhi); (try have hhi := hhi2); (try clear hhi2)
        have gw1 := Lib.hid hio
        have hGw2 := fun h0 => hio.lt h0
        clear hb hio
        clear c0 c1 CS
        go_wp2_with fail
        go_at_call 22
        refine (toMeltS_calls _ _ _ _ _ (HM.out.keep k1.out) HNM.out hm2).mono ?_
        rintro e w4 ⟨rfl, hb, -, hc, hx⟩
        obtain ⟨lo1, hlo1⟩ : ∃ lo : Nat, lo = w3.heap.size := ⟨_, rfl⟩
        have hlo : w.heap.size ≤ lo1 := by have := k1.out.size; omega
        have hlo4 : lo1 ≤ w4.heap.size := by have := hb.size; omega
        have hGw3 : ∀ h0 : 0 < L, Gw < lo1 := fun h0 => by have := hGw2 h0; omega
        rw [← hlo1] at hc hx
        replace k1 := Lib.hid (k1.out.trans (hb.mono k1.out.size)); (try replace gw1 := Lib.hid (gw1.out.keep hb)); (try replace gg1 := Lib.hid (gg1.out.keep hb)); (try replace xr1 := Lib.hid (xr1.out.keep hb)); (try replace xs1 := Lib.hid (xs1.out.kin (Kin.of hb))); (try replace xb1 := Lib.hid (xb1.out.keep hb)); (try replace xq1 := Lib.hid (xq1.out.kin (Kin.of hb))); (try have hhi2 := Nat.le_trans hhi hb.size); (try clear hhi); (try have hhi := hhi2); (try clear hhi2)
        have xr1 := Lib.hid hc
        have xs1 := Lib.hid hx
        rw [← hlo1]
        clear hGw2 hb hc hx hlo1
        have hGw2 := hGw3
        clear hGw3
        go_wp2_with fail
        go_at_call 13
        refine (toBellS_own _ _ _ _ _ (HR.out.keep k1.out) HN.out hn2).mono ?_
        rintro e w5 ⟨rfl, hb, -, hco, hx⟩
        have xs2 := Lib.hid (MeltShape.mono (xs1.out.kin (Kin.of hb)) (Nat.le_refl _) hb.size)
        have xq1 := Lib.hid (BellShape.mono hx hlo4 (Nat.le_refl _))
        have xb1 := Lib.hid hco
        have hlo5 : lo1 ≤ w5.heap.size := by have := hb.size; omega
        obtain ⟨G2, hG2⟩ : ∃ G : Nat, G = w4.heap.size := ⟨_, rfl⟩
        rw [← hG2] at xq1 xb1 ⊢
        replace k1 := Lib.hid (k1.out.trans (hb.mono k1.out.size))
        replace gw1 := Lib.hid (gw1.out.keep hb)
        replace xr1 := Lib.hid (xr1.out.keep hb)
        clear xs1 hco hx hG2
        have xs1 := xs2
        clear hb xs2
        obtain ⟨hi1, hhi1⟩ : ∃ hi : Nat, hi = w5.heap.size := ⟨_, rfl⟩
        rw [← hhi1] at xs1 xq1
        have hlohi : lo1 ≤ hi1 := by omega
        have hhi : hi1 ≤ w5.heap.size := by omega
        clear hhi1 hlo4 hlo5
        go_wp2_with fail
        go_at_call 49
        refine (CI.out _ _ _ _ _ (Nat.le_refl _) xr1.out xb1.out).mono ?_
        rintro e w5 ⟨v, rfl, Ag, cg, Gg0, rfl, hio, hGg0, hb⟩
        obtain ⟨Gg, hGg, hio⟩ : ∃ G, hi1 ≤ G ∧ StrOwn w5 Ag L S G := ⟨Gg0, Nat.le_trans hhi hGg0, hio⟩
        replace k1 := Lib.hid (k1.out.trans (hb.mono k1.out.size)); (try replace gw1 := Lib.hid (gw1.out.keep hb)); (try replace gg1 := Lib.hid (gg1.out.keep hb)); (try replace xr1 := Lib.hid (xr1.out.keep hb)); (try replace xs1 := Lib.hid (xs1.out.kin (Kin.of hb))); (try replace xb1 := Lib.hid (xb1.out.keep hb)); (try replace xq1 := Lib.hid (xq1.out.kin (Kin.of hb))); (try have hhi2 := Nat.le_trans hhi hb.size); (try clear hhi); (try have hhi := hhi2); (try clear hhi2)
        have gg1 := Lib.hid hio
        clear hb hio hGg0
        go_wp2_with fail
        go_at_call 15
        refine (eqStringS_calls _ _ L _ _ S _ gg1.out.row gw1.out.row hL).mono ?_
        rintro e w6 ⟨rfl, hb⟩
        replace k1 := Lib.hid (k1.out.trans (hb.mono k1.out.size)); (try replace gw1 := Lib.hid (gw1.out.keep hb)); (try replace gg1 := Lib.hid (gg1.out.keep hb)); (try replace xr1 := Lib.hid (xr1.out.keep hb)); (try replace xs1 := Lib.hid (xs1.out.kin (Kin.of hb))); (try replace xb1 := Lib.hid (xb1.out.keep hb)); (try replace xq1 := Lib.hid (xq1.out.kin (Kin.of hb))); (try have hhi2 := Nat.le_trans hhi hb.size); (try clear hhi); (try have hhi := hhi2); (try clear hhi2)
        clear hb
        go_wp2_with fail
        go_at_call 22
        refine (toMeltS_calls _ _ _ _ _ (HM.out.keep k1.out) HNM.out hm2).mono ?_
        rintro e w7 ⟨rfl, hb, -, hc, -⟩
        have hx2 := Lib.hid hc
        replace k1 := Lib.hid (k1.out.trans (hb.mono k1.out.size)); (try replace gw1 := Lib.hid (gw1.out.keep hb)); (try replace gg1 := Lib.hid (gg1.out.keep hb)); (try replace xr1 := Lib.hid (xr1.out.keep hb)); (try replace xs1 := Lib.hid (xs1.out.kin (Kin.of hb))); (try replace xb1 := Lib.hid (xb1.out.keep hb)); (try replace xq1 := Lib.hid (xq1.out.kin (Kin.of hb))); (try have hhi2 := Nat.le_trans hhi hb.size); (try clear hhi); (try have hhi := hhi2); (try clear hhi2)
        clear hb hc
        go_wp2_with fail
        go_at_call 24
        refine (eqMeltS_calls _ _ _ _ _ _ _ xr1.out hx2.out HNM.out hm2).mono ?_
        rintro e w7 ⟨rfl, hb⟩
        replace k1 := Lib.hid (k1.out.trans (hb.mono k1.out.size)); (try replace gw1 := Lib.hid (gw1.out.keep hb)); (try replace gg1 := Lib.hid (gg1.out.keep hb)); (try replace xr1 := Lib.hid (xr1.out.keep hb)); (try replace xs1 := Lib.hid (xs1.out.kin (Kin.of hb))); (try replace xb1 := Lib.hid (xb1.out.keep hb)); (try replace xq1 := Lib.hid (xq1.out.kin (Kin.of hb))); (try have hhi2 := Nat.le_trans hhi hb.size); (try clear hhi); (try have hhi := hhi2); (try clear hhi2)
        clear hb hx2 xr1
        go_wp2_with fail
        go_at_call 13
        refine (toBellS_calls _ _ _ _ _ (HR.out.keep k1.out) HN.out hn2).mono ?_
        rintro e w7 ⟨rfl, hb, -, hc⟩
        have hx2 := Lib.hid hc
        replace k1 := Lib.hid (k1.out.trans (hb.mono k1.out.size)); (try replace gw1 := Lib.hid (gw1.out.keep hb)); (try replace gg1 := Lib.hid (gg1.out.keep hb)); (try replace xr1 := Lib.hid (xr1.out.keep hb)); (try replace xs1 := Lib.hid (xs1.out.kin (Kin.of hb))); (try replace xb1 := Lib.hid (xb1.out.keep hb)); (try replace xq1 := Lib.hid (xq1.out.kin (Kin.of hb))); (try have hhi2 := Nat.le_trans hhi hb.size); (try clear hhi); (try have hhi := hhi2); (try clear hhi2)
        clear hb hc
        go_wp2_with fail
        go_at_call 16
        refine (eqBellS_calls _ _ _ _ _ _ _ xb1.out hx2.out HN.out hn2).mono ?_
        rintro e w7 ⟨rfl, hb⟩
        replace k1 := Lib.hid (k1.out.trans (hb.mono k1.out.size)); (try replace gw1 := Lib.hid (gw1.out.keep hb)); (try replace gg1 := Lib.hid (gg1.out.keep hb)); (try replace xr1 := Lib.hid (xr1.out.keep hb)); (try replace xs1 := Lib.hid (xs1.out.kin (Kin.of hb))); (try replace xb1 := Lib.hid (xb1.out.keep hb)); (try replace xq1 := Lib.hid (xq1.out.kin (Kin.of hb))); (try have hhi2 := Nat.le_trans hhi hb.size); (try clear hhi); (try have hhi := hhi2); (try clear hhi2)
        clear hb hx2 xb1
        go_wp2_with fail
        go_at_call 43
        refine (markMeltS_kin _ m _ lo1 hi1 1 _ _ xs1.out hhi hsumM (by omega) (by omega)).mono ?_
        rintro e w8 ⟨rfl, hg⟩
        have hlo2 := Nat.le_trans hlohi hhi
        have hbl := hg.below hlo2
        replace k1 := Lib.hid (k1.out.trans (hbl.mono hlo))
        replace gw1 := Lib.hid (gw1.out.same (fun h => hg.far _ (Nat.lt_of_lt_of_le (hGw2 h) hlo2) (by have := hGw2 h; omega)))
        replace gg1 := Lib.hid (gg1.out.same (fun h => hg.far _ (gg1.out.lt h) (by omega)))
        have hhi2 := Nat.le_trans hhi hg.size
        have xq2 := Lib.hid (xq1.out.kin hg)
        clear xq1 xs1 hhi hg hbl hlo2
        have hhi := hhi2
        have xq1 := xq2
        clear hhi2 xq2
        obtain ⟨M0, hM0⟩ : ∃ M : Nat, M = 1 + 2 * m + sumN (fun i => (g i).n) m := ⟨_, rfl⟩
        rw [← hM0]
        have hMb0 : M0 ≤ 8000000 := by omega
        have hMa0 : 1 ≤ M0 := by omega
        clear hM0
        go_wp2_with fail
        go_at_call 17
        refine (markBellS_kin _ n _ lo1 hi1 M0 _ _ xq1.out hhi hsum hMa0 (by omega)).mono ?_
        rintro e w8 ⟨rfl, hg⟩
        have hlo2 := Nat.le_trans hlohi hhi
        have hbl := hg.below hlo2
        replace k1 := Lib.hid (k1.out.trans (hbl.mono hlo))
        replace gw1 := Lib.hid (gw1.out.same (fun h => hg.far _ (Nat.lt_of_lt_of_le (hGw2 h) hlo2) (by have := hGw2 h; omega)))
        replace gg1 := Lib.hid (gg1.out.same (fun h => hg.far _ (gg1.out.lt h) (by omega)))
        have hhi2 := Nat.le_trans hhi hg.size
        clear xq1 hhi hg hbl hlo2 hhi2
        obtain ⟨M, hM⟩ : ∃ M : Nat, M = M0 + 4 * n + 2 * sumN (fun i => (f i).n) n := ⟨_, rfl⟩
        rw [← hM]
        have hMb : M ≤ 20000000 := by omega
        clear hM
        go_wp2_with fail
        go_at_call 15
        refine (eqStringS_calls _ _ L _ _ S _ gg1.out.row gw1.out.row hL).mono ?_
        rintro e w9 ⟨rfl, hb⟩
        replace k1 := Lib.hid (k1.out.trans (hb.mono k1.out.size)); (try replace gw1 := Lib.hid (gw1.out.keep hb)); (try replace gg1 := Lib.hid (gg1.out.keep hb))
        clear hb
        go_wp2_with fail
        go_at_call 18
        refine (markStringS_calls _ L _ Gg S 1 _ gg1.out hL (by omega) (by omega)).mono ?_
        rintro e w10 ⟨rfl, hm1, hg⟩
        replace k1 := Lib.hid (k1.out.grown hg k1.out.size (fun k hk => by cases hk; omega))
        replace gw1 := Lib.hid (gw1.out.grown hg (fun h => by have := hGw2 h; omega))
        clear gg1
        have gg1 := Lib.hid hm1
        obtain ⟨M3, hM3⟩ : ∃ M : Nat, M = 1 + L := ⟨_, rfl⟩
        rw [← hM3]
        have HM3 := Lib.hid hM3
        have hMb3 : M3 ≤ 4000000 := by omega
        clear hM3 hg hm1
        go_wp2_with fail
        go_at_call 19
        refine (heldStringS_calls _ L _ 1 _ gg1.out.row hL (by omega) (by omega)).mono ?_
        rintro e w11 ⟨rfl, hb⟩
        rw [← HM3.out]
        replace k1 := Lib.hid (k1.out.trans (hb.mono k1.out.size)); (try replace gw1 := Lib.hid (gw1.out.keep hb)); (try replace gg1 := Lib.hid (gg1.out.keep hb))
        clear hb
        go_wp2_with fail
        go_at_call 22
        refine (toMeltS_calls _ _ _ _ _ (HM.out.keep k1.out) HNM.out hm2).mono ?_
        rintro e w12 ⟨rfl, hb, -, hc, -⟩
        have c0 := Lib.hid hc
        replace k1 := Lib.hid (k1.out.trans (hb.mono k1.out.size)); (try replace gw1 := Lib.hid (gw1.out.keep hb)); (try replace gg1 := Lib.hid (gg1.out.keep hb))
        clear hb hc
        go_wp2_with fail
        go_at_call 13
        refine (toBellS_calls _ _ _ _ _ (HR.out.keep k1.out) HN.out hn2).mono ?_
        rintro e w12 ⟨rfl, hb, -, hc⟩
        have c1 := Lib.hid hc
        replace c0 := Lib.hid (c0.out.keep hb)
        replace k1 := Lib.hid (k1.out.trans (hb.mono k1.out.size)); (try replace gw1 := Lib.hid (gw1.out.keep hb)); (try replace gg1 := Lib.hid (gg1.out.keep hb))
        clear hb hc
        go_wp2_with fail
        go_at_call 49
        refine (CI.out _ _ _ _ _ (Nat.le_refl _) c0.out c1.out).mono ?_
        clear c0 c1
        rintro e w13 ⟨v, rfl, Ah, ch, Gh, rfl, hio, -, hb⟩
        replace k1 := Lib.hid (k1.out.trans (hb.mono k1.out.size)); (try replace gw1 := Lib.hid (gw1.out.keep hb)); (try replace gg1 := Lib.hid (gg1.out.keep hb))
        have gh1 := Lib.hid hio
        clear hb hio CI
        go_wp2_with fail
        go_at_call 15
        refine (eqStringS_calls _ _ L _ _ S _ gh1.out.row gw1.out.row hL).mono ?_
        rintro e w14 ⟨rfl, hb⟩
        replace k1 := Lib.hid (k1.out.trans (hb.mono k1.out.size)); (try replace gw1 := Lib.hid (gw1.out.keep hb)); (try replace gg1 := Lib.hid (gg1.out.keep hb))
        clear hb gh1
        go_wp2_with fail
        go_at_call 19
        refine (heldStringS_calls _ L _ 1 _ gg1.out.row hL (by omega) (by omega)).mono ?_
        rintro e w15 ⟨rfl, hb⟩
        rw [← HM3.out]
        replace k1 := Lib.hid (k1.out.trans (hb.mono k1.out.size)); (try replace gw1 := Lib.hid (gw1.out.keep hb)); (try replace gg1 := Lib.hid (gg1.out.keep hb))
        clear hb
        go_wp2
        go_ret
        exact ⟨rfl, k1.out⟩
theorem own : ownKnob Try.prog.godebug = none := by kernel_rfl
theorem laidOut : laidOutB Try.prog = true := by kernel_rfl
set_option maxRecDepth 100000 in
theorem lifted (os : Os) (started : os.Started) (H : Type) (enc : TypeId × Value → H) :
    ReturnsInHanded {} Try.checked os 10 .any (Rows.fnExactRecallIngotSpec.pre6 enc Try.prog Try.f10 Rows.fnExactRecallIngotRow.domain false) (Rows.fnExactRecallIngotSpec.post enc Try.prog Try.f10 false true false false) := by
  refine returnsInHanded_of_change (C := Try.checked) own started (by kernel_rfl) Try.func10
    (ChangeSpec.witness6 (enc := enc) (C := Try.checked) false ⟨#[], #[.slice none 0 0, .slice none 0 0, .string ⟨#[]⟩], []⟩ 8 (by kernel_rfl) (by kernel_rfl) (by kernel_rfl) (by kernel_rfl)) ?_
  intro W base args ds gs before hval0 hW hcnd _
  have hval : ∀ (j : Nat) t v, Try.f10.params[j]? = some t → args[j]? = some v → Value.okWide Try.prog W .any base t v := hval0
  have hW' := hW
  obtain ⟨p, q, hA0, hV, rfl, hfz, hnd⟩ := hW
  have hA : DataW.TrodAll enc Try.prog W 0 (fun _ => true) true Try.f10.params.toList args.toList ds p := hA0
  rw [Try.params10] at hA hval
  obtain ⟨v0, vs0, d0, ds0, p0, q0, hargs, rfl, rfl, h0, r0⟩ := trodAll_cons hA
  obtain ⟨v1, vs1, d1, ds1, p1, q1, rfl, rfl, rfl, h1, r1⟩ := trodAll_cons r0
  obtain ⟨v2, vs2, d2, ds2, p2, q2, rfl, rfl, rfl, h2, r2⟩ := trodAll_cons r1
  obtain ⟨rfl, rfl, rfl⟩ := trodAll_nil r2
  obtain rfl : args = #[v0, v1, v2] := by cases args; simp_all
  obtain ⟨rfl, rfl⟩ := trodVars_none hV
  have k0 := h0
  have lt0 : ∀ x ∈ p0, x.block < W.heap.size := by obtain ⟨m, hm⟩ := k0; exact DataW.trod_lt m _ _ _ hm
  have k1 := h1
  have lt1 : ∀ x ∈ p1, x.block < W.heap.size := by obtain ⟨m, hm⟩ := k1; exact DataW.trod_lt m _ _ _ hm
  have k2 := h2
  have lt2 : ∀ x ∈ p2, x.block < W.heap.size := by obtain ⟨m, hm⟩ := k2; exact DataW.trod_lt m _ _ _ hm
  obtain ⟨A0, n0, m0, rfl⟩ := okWide_slice Try.underlying34 (hval 0 34 v0 rfl rfl)
  obtain ⟨fu0, hf0⟩ := h0
  obtain ⟨f0, hr0, hn0, hft0⟩ := openMeltS hf0
  obtain ⟨A1, n1, m1, rfl⟩ := okWide_slice Try.underlying22 (hval 1 22 v1 rfl rfl)
  obtain ⟨fu1, hf1⟩ := h1
  obtain ⟨f1, hr1, hn1, hft1⟩ := openBellS hf1
  obtain ⟨s2, rfl, _, _, ws2⟩ := open_string Try.underlying9 (hval 2 9 v2 rfl rfl) h2
  clear hA0 hval0
  refine (walk A0 n0 m0 f0 A1 n1 m1 f1 s2 W hr0 hn0 hft0 hr1 hn1 hft1 ws2).mono fun e W' ⟨he, bel⟩ => ?_
  subst he
  exact ⟨_, rfl, _, _, _, [], _, [], hW', trodAll_mk1 (shut_bool Try.underlying4 _), (trodAll_cons_mk (Below.trod laidOut (by kernel_rfl) (of_decide_eq_true (by kernel_rfl)) k0 bel lt0) (trodAll_cons_mk (Below.trod laidOut (by kernel_rfl) (of_decide_eq_true (by kernel_rfl)) k1 bel lt1) (trodAll_cons_mk (Below.trod laidOut (by kernel_rfl) (of_decide_eq_true (by kernel_rfl)) k2 bel lt2) trodAll_mk0))), rfl, bel.frame _, fun h => by cases h⟩
set_option maxHeartbeats 20000000 in
theorem closed : joinedFacts Try.pinned.checked.prog 10 Try.f10 Rows.fnExactRecallIngotSpec Rows.fnExactRecallIngotRow = true := by
  unfold joinedFacts
  simp only [Bool.and_eq_true]
  and_intros
  all_goals (as_aux_lemma => kernel_rfl)
theorem proved : Rows.FnExactRecallIngotSaid :=
  OpenClaim.holds_of_wide 10 Try.f10 rfl rfl rfl rfl rfl rfl rfl ⟨rfl, rfl, rfl, rfl, rfl⟩ rfl rfl rfl rfl rfl (by kernel_rfl) Try.func10 closed
    (of_decide_eq_true (by kernel_rfl)) (by unfold Func.isWrapper; first | (rw [if_pos (by decide +kernel)]; kernel_rfl) | (rw [if_neg (by decide +kernel)]; exact ⟨rfl, rfl⟩))
    (fun os started H enc _ => lifted os started H enc)
end Go.Proofs.Ytccjgeoebbnkoaa.FnExactRecallIngot
