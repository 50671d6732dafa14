/- FnExactPlaceMoulds: the program's PlaceMoulds and the reference's give the same placing of every profiles, wall and holes. No further condition. -/


import Derived.Test.YtonoeohmpaegdaaRows
import Derived.Test.YtonoeohmpaegdaaFrame
import Derived.Test.YtonoeohmpaegdaaLPlaceQ
namespace Go.Proofs.Ytonoeohmpaegdaa.FnExactPlaceMoulds
set_option linter.unusedVariables false
open Go.ChangeShapes Go.WideShapes Go.ChangeAt Go.RowKit Go.Deep
open Go.ChangeMaps (open_string shut_string)
theorem int_same {w w' : World} {A : Option Addr} {n G : Nat} {p : Nat → Int} (h : IntOwn w A n p G) (hg : 0 < n → w'.heap[G]? = w.heap[G]?) : IntOwn w' A n p G := fun hn => by
  obtain ⟨hA, arr, hk, hs, ha⟩ := h hn
  exact ⟨hA, arr, (hg hn).trans hk, hs, ha⟩
theorem hole_same {w w' : World} {A : Option Addr} {n G : Nat} {s0 : Nat → ByteArray} {a1 a2 : Nat → Int} (h : HoleOwn w A n s0 a1 a2 G) (hg : 0 < n → w'.heap[G]? = w.heap[G]?) : HoleOwn w' A n s0 a1 a2 G := fun hn => by
  obtain ⟨hA, arr, hk, hs, ha⟩ := h hn
  exact ⟨hA, arr, (hg hn).trans hk, hs, ha⟩
theorem hole_lt {w : World} {A : Option Addr} {n G : Nat} {s0 : Nat → ByteArray} {a1 a2 : Nat → Int} (h : HoleOwn w A n s0 a1 a2 G) (hn : 0 < n) : G < w.heap.size := by
  obtain ⟨-, arr, hb, -⟩ := h hn
  exact hb.lt
theorem both (f : Nat → ProfV) (n : Nat) (wall : Int) (m : Nat) (ht : Nat → ByteArray) (hr hd : Nat → Int) (hf : ∀ i, i < n → FineP (f i)) (hn : n ≤ 1048576) (hts : ∀ i, i < m → (ht i).size ≤ maxLen) (hm : m ≤ maxLen) (hm2 : m ≤ 1048576) : ∃ (L : Nat) (P : Nat → Int) (code : Int), L ≤ 1048576 ∧
    (∀ W A c B c2, ProfRow W A n f → HoleRow W B m ht hr hd → Calls Try.prog 7 #[.slice A n c, .int .i64 wall, .slice B m c2] W fun e w' => ∃ v, e = .returned (.tuple #[v, .int .i64 code]) ∧ IntsOut W L P v w') ∧
    (∀ W A c B c2, ProfRow W A n f → HoleRow W B m ht hr hd → Calls Try.prog 10 #[.slice A n c, .int .i64 wall, .slice B m c2] W fun e w' => ∃ v, e = .returned (.tuple #[v, .int .i64 code]) ∧ IntsOut W L P v w') :=
  ⟨_, _, _, pmL_len hn, fun W A c B c2 h1 h2 => sPlaceMoulds_calls A c B c2 f n wall m ht hr hd W h1 hf hn h2 hts hm hm2, fun W A c B c2 h1 h2 => PlaceMoulds_calls A c B c2 f n wall m ht hr hd W h1 hf hn h2 hts hm hm2⟩
set_option maxRecDepth 20000 in
set_option maxHeartbeats 8000000 in
theorem walk (A : Option Addr) (n c : Nat) (f : Nat → ProfV) (wall : Int) (B : Option Addr) (m c2 : Nat) (ht : Nat → ByteArray) (hr hd : Nat → Int) (w : World) (hrow1 : ProfRow w A n f) (hn : n ≤ maxLen) (hft : ∀ i, i < n → FitP (f i)) (_ : (Lit.int .i64 wall).wf = true) (hrow2 : HoleRow w B m ht hr hd) (hm : m ≤ maxLen) (hts : ∀ i, i < m → (ht i).size ≤ maxLen) (_ : ∀ i, i < m → (Lit.int .i64 (hr i)).wf = true) (_ : ∀ i, i < m → (Lit.int .i64 (hd i)).wf = true) :
    Calls Try.prog 3 #[.slice A n c, .int .i64 wall, .slice B m c2] w fun e w' => e = .returned (.bool true) ∧ Below w.heap.size w w' := by
  have HF := Lib.hid hft
  have HR := Lib.hid hrow1
  have HH := Lib.hid hrow2
  have HT := Lib.hid hts
  have k1 := Lib.hid (Below.refl w.heap.size w)
  clear hrow1 hrow2 hts hft
  by_cases hbig : (1048576 : Int) < (n : Int) + sumP f n
  · go_enter Try.func3, Try.ntmps3
    go_wp2_with (go_at_call 5; refine (szProfileS_calls _ _ _ _ _ _ (HR.out.below k1.out (Nat.le_refl _)) HF.out hn (by omega) (by omega)).mono ?_; rw [if_pos (by omega)]; rintro e w1 ⟨rfl, hb⟩; replace k1 := Lib.hid (k1.out.trans (hb.mono k1.out.size)); (try replace gw1 := Lib.hid (gw1.out.keep hb)); (try replace xr1 := Lib.hid (xr1.out.keep hb)); (try replace xs1 := Lib.hid (xs1.out.kin (Kin.of hb))); (try replace gg1 := Lib.hid (gg1.out.keep hb)); (try replace hh1 := Lib.hid (hh1.out.keep hb)); (try have hhi2 := Nat.le_trans hhi hb.size); (try clear hhi); (try have hhi := hhi2); (try clear hhi2); clear hb)
    go_ret
    exact ⟨rfl, k1.out⟩
  · by_cases hbig2 : (1048576 : Int) - ((n : Int) + sumP f n) < (m : Int) + sumS ht m
    · go_enter Try.func3, Try.ntmps3
      go_wp2_with fail
      go_at_call 5
      refine (szProfileS_calls _ _ _ _ _ _ (HR.out.below k1.out (Nat.le_refl _)) HF.out hn (by omega) (by omega)).mono ?_
      rw [if_neg (by omega)]
      rintro e w1 ⟨rfl, hb⟩
      replace k1 := Lib.hid (k1.out.trans (hb.mono k1.out.size)); (try replace gw1 := Lib.hid (gw1.out.keep hb)); (try replace xr1 := Lib.hid (xr1.out.keep hb)); (try replace xs1 := Lib.hid (xs1.out.kin (Kin.of hb))); (try replace gg1 := Lib.hid (gg1.out.keep hb)); (try replace hh1 := Lib.hid (hh1.out.keep hb)); (try have hhi2 := Nat.le_trans hhi hb.size); (try clear hhi); (try have hhi := hhi2); (try clear hhi2)
      clear hb
      go_wp2_with (go_at_call 6; refine (szHoleS_calls _ _ _ _ _ _ _ _ (HH.out.below k1.out (Nat.le_refl _)) HT.out hm (by omega) (by omega)).mono ?_; rw [if_pos (by omega)]; rintro e w1 ⟨rfl, hb⟩; replace k1 := Lib.hid (k1.out.trans (hb.mono k1.out.size)); (try replace gw1 := Lib.hid (gw1.out.keep hb)); (try replace xr1 := Lib.hid (xr1.out.keep hb)); (try replace xs1 := Lib.hid (xs1.out.kin (Kin.of hb))); (try replace gg1 := Lib.hid (gg1.out.keep hb)); (try replace hh1 := Lib.hid (hh1.out.keep hb)); (try have hhi2 := Nat.le_trans hhi hb.size); (try clear hhi); (try have hhi := hhi2); (try clear hhi2); clear hb)
      go_ret
      exact ⟨rfl, k1.out⟩
    · have hn2 : n ≤ 1048576 := by omega
      have hm2 : m ≤ 1048576 := by omega
      have hsum : n + sumN (fun i => (f i).n) n ≤ 1048576 := by have := sumN_P f n; omega
      have HG := Lib.hid (fineP_of HF.out (by omega))
      have HN := Lib.hid (show ∀ i, i < n → (f i).n ≤ 1048576 from fun i hi => (HG.out i hi).2)
      obtain ⟨L, P, code, hL, hcs, hci⟩ := both f n wall m ht hr hd HG.out hn2 HT.out hm hm2
      have CS := Lib.hid hcs
      have CI := Lib.hid hci
      obtain ⟨L3, hL3⟩ : ∃ L3 : Int, L3 = 1048576 - ((n : Int) + sumP f n) - ((m : Int) + sumS ht m) := ⟨_, rfl⟩
      have hL4 : 0 ≤ L3 := by omega
      have HL3 := Lib.hid hL3
      clear hcs hci hL3
      go_enter Try.func3, Try.ntmps3
      go_wp2_with fail
      go_at_call 5
      refine (szProfileS_calls _ _ _ _ _ _ (HR.out.below k1.out (Nat.le_refl _)) HF.out hn (by omega) (by omega)).mono ?_
      rw [if_neg (by omega)]
      rintro e w1 ⟨rfl, hb⟩
      replace k1 := Lib.hid (k1.out.trans (hb.mono k1.out.size)); (try replace gw1 := Lib.hid (gw1.out.keep hb)); (try replace xr1 := Lib.hid (xr1.out.keep hb)); (try replace xs1 := Lib.hid (xs1.out.kin (Kin.of hb))); (try replace gg1 := Lib.hid (gg1.out.keep hb)); (try replace hh1 := Lib.hid (hh1.out.keep hb)); (try have hhi2 := Nat.le_trans hhi hb.size); (try clear hhi); (try have hhi := hhi2); (try clear hhi2)
      clear hb
      go_wp2_with fail
      go_at_call 6
      refine (szHoleS_calls _ _ _ _ _ _ _ _ (HH.out.below k1.out (Nat.le_refl _)) HT.out hm (by omega) (by omega)).mono ?_
      rw [if_neg (by omega), ← HL3.out]
      rintro e w1 ⟨rfl, hb⟩
      replace k1 := Lib.hid (k1.out.trans (hb.mono k1.out.size)); (try replace gw1 := Lib.hid (gw1.out.keep hb)); (try replace xr1 := Lib.hid (xr1.out.keep hb)); (try replace xs1 := Lib.hid (xs1.out.kin (Kin.of hb))); (try replace gg1 := Lib.hid (gg1.out.keep hb)); (try replace hh1 := Lib.hid (hh1.out.keep hb)); (try have hhi2 := Nat.le_trans hhi hb.size); (try clear hhi); (try have hhi := hhi2); (try clear hhi2)
      clear hb
      go_wp2_with fail
      go_at_call 8
      refine (toProfileS_calls A n c f _ (HR.out.below k1.out (Nat.le_refl _)) HN.out hn2).mono ?_
      rintro e w3 ⟨rfl, hb, -, hc, -⟩
      have x1 := Lib.hid hc
      replace k1 := Lib.hid (k1.out.trans (hb.mono k1.out.size)); (try replace gw1 := Lib.hid (gw1.out.keep hb)); (try replace xr1 := Lib.hid (xr1.out.keep hb)); (try replace xs1 := Lib.hid (xs1.out.kin (Kin.of hb))); (try replace gg1 := Lib.hid (gg1.out.keep hb)); (try replace hh1 := Lib.hid (hh1.out.keep hb)); (try have hhi2 := Nat.le_trans hhi hb.size); (try clear hhi); (try have hhi := hhi2); (try clear hhi2)
      clear hb hc
      go_wp2_with fail
      go_at_call 9
      refine (toHoleS_calls B m c2 ht hr hd _ (HH.out.below k1.out (Nat.le_refl _)) hm2).mono ?_
      rintro e w4 ⟨rfl, hb, -, hc⟩
      have x2 := Lib.hid hc
      replace x1 := Lib.hid (x1.out.keep hb)
      replace k1 := Lib.hid (k1.out.trans (hb.mono k1.out.size)); (try replace gw1 := Lib.hid (gw1.out.keep hb)); (try replace xr1 := Lib.hid (xr1.out.keep hb)); (try replace xs1 := Lib.hid (xs1.out.kin (Kin.of hb))); (try replace gg1 := Lib.hid (gg1.out.keep hb)); (try replace hh1 := Lib.hid (hh1.out.keep hb)); (try have hhi2 := Nat.le_trans hhi hb.size); (try clear hhi); (try have hhi := hhi2); (try clear hhi2)
      clear hb hc
      go_wp2_with fail
      go_at_call 7
      refine (CS.out _ _ _ _ _ x1.out x2.out).mono ?_
      rintro e w5 ⟨v, rfl, Aw, cw, Gw, rfl, hio, hGw, hb⟩
      replace k1 := Lib.hid (k1.out.trans (hb.mono k1.out.size)); (try replace gw1 := Lib.hid (gw1.out.keep hb)); (try replace xr1 := Lib.hid (xr1.out.keep hb)); (try replace xs1 := Lib.hid (xs1.out.kin (Kin.of hb))); (try replace gg1 := Lib.hid (gg1.out.keep hb)); (try replace hh1 := Lib.hid (hh1.out.keep hb)); (try have hhi2 := Nat.le_trans hhi hb.size); (try clear hhi); (try have hhi := hhi2); (try clear hhi2)
      have gw1 := Lib.hid hio
      have hGw0 := fun h0 => hio.lt h0
      clear hb hio x1 x2 CS hGw
      go_wp2_with fail
      go_at_call 8
      refine (toProfileS_calls A n c f _ (HR.out.below k1.out (Nat.le_refl _)) HN.out hn2).mono ?_
      rintro e w6 ⟨rfl, hb, hgt, hc, hx⟩
      obtain ⟨lo1, hlo1⟩ : ∃ lo : Nat, lo = w5.heap.size := ⟨_, rfl⟩
      obtain ⟨hi1, hhi1⟩ : ∃ hi : Nat, hi = w6.heap.size := ⟨_, rfl⟩
      have hlo : w.heap.size ≤ lo1 := by have := k1.out.size; omega
      have hlohi : lo1 ≤ hi1 := by have := hb.size; omega
      rw [← hlo1] at hc hx
      rw [← hhi1] at hx
      replace k1 := Lib.hid (k1.out.trans (hb.mono k1.out.size)); (try replace gw1 := Lib.hid (gw1.out.keep hb)); (try replace xr1 := Lib.hid (xr1.out.keep hb)); (try replace xs1 := Lib.hid (xs1.out.kin (Kin.of hb))); (try replace gg1 := Lib.hid (gg1.out.keep hb)); (try replace hh1 := Lib.hid (hh1.out.keep hb)); (try have hhi2 := Nat.le_trans hhi hb.size); (try clear hhi); (try have hhi := hhi2); (try clear hhi2)
      have xr1 := Lib.hid hc
      have xs1 := Lib.hid hx
      have hhi : hi1 ≤ w6.heap.size := by omega
      rw [← hlo1]
      have hGw2 : ∀ h0 : 0 < L, Gw < lo1 := fun h0 => by have := hGw0 h0; omega
      clear hGw0 hlo1 hb hc hx hgt
      go_wp2_with fail
      go_at_call 9
      refine (toHoleS_own B m c2 ht hr hd _ (HH.out.below k1.out (Nat.le_refl _)) hm2).mono ?_
      rintro e w7 ⟨rfl, hb, hgt, hc⟩
      obtain ⟨Gh, hGh⟩ : ∃ Gh : Nat, Gh = w6.heap.size := ⟨_, rfl⟩
      rw [← hGh] at hc hgt ⊢
      have hhg : hi1 ≤ Gh := by omega
      replace k1 := Lib.hid (k1.out.trans (hb.mono k1.out.size)); (try replace gw1 := Lib.hid (gw1.out.keep hb)); (try replace xr1 := Lib.hid (xr1.out.keep hb)); (try replace xs1 := Lib.hid (xs1.out.kin (Kin.of hb))); (try replace gg1 := Lib.hid (gg1.out.keep hb)); (try replace hh1 := Lib.hid (hh1.out.keep hb)); (try have hhi2 := Nat.le_trans hhi hb.size); (try clear hhi); (try have hhi := hhi2); (try clear hhi2)
      have hh1 := Lib.hid hc
      clear hb hc hGh hhi1
      go_wp2_with fail
      go_at_call 10
      refine (CI.out _ _ _ _ _ xr1.out hh1.out.row).mono ?_
      rintro e w8 ⟨v, rfl, Ag, cg, Gg, rfl, hio, hGg0, hb⟩
      have hGg : Gh < Gg := by omega
      replace k1 := Lib.hid (k1.out.trans (hb.mono k1.out.size)); (try replace gw1 := Lib.hid (gw1.out.keep hb)); (try replace xr1 := Lib.hid (xr1.out.keep hb)); (try replace xs1 := Lib.hid (xs1.out.kin (Kin.of hb))); (try replace gg1 := Lib.hid (gg1.out.keep hb)); (try replace hh1 := Lib.hid (hh1.out.keep hb)); (try have hhi2 := Nat.le_trans hhi hb.size); (try clear hhi); (try have hhi := hhi2); (try clear hhi2)
      have gg1 := Lib.hid hio
      clear hb hio hGg0 hgt
      go_wp2_with fail
      go_at_call 11
      refine (eqInt64S_calls _ _ L _ _ P _ gg1.out.row gw1.out.row hL).mono ?_
      rintro e w9 ⟨rfl, hb⟩
      replace k1 := Lib.hid (k1.out.trans (hb.mono k1.out.size)); (try replace gw1 := Lib.hid (gw1.out.keep hb)); (try replace xr1 := Lib.hid (xr1.out.keep hb)); (try replace xs1 := Lib.hid (xs1.out.kin (Kin.of hb))); (try replace gg1 := Lib.hid (gg1.out.keep hb)); (try replace hh1 := Lib.hid (hh1.out.keep hb)); (try have hhi2 := Nat.le_trans hhi hb.size); (try clear hhi); (try have hhi := hhi2); (try clear hhi2)
      clear hb
      go_wp2_with fail
      go_at_call 8
      refine (toProfileS_calls A n c f _ (HR.out.below k1.out (Nat.le_refl _)) HN.out hn2).mono ?_
      rintro e w10 ⟨rfl, hb, -, hc, -⟩
      replace k1 := Lib.hid (k1.out.trans (hb.mono k1.out.size)); (try replace gw1 := Lib.hid (gw1.out.keep hb)); (try replace xr1 := Lib.hid (xr1.out.keep hb)); (try replace xs1 := Lib.hid (xs1.out.kin (Kin.of hb))); (try replace gg1 := Lib.hid (gg1.out.keep hb)); (try replace hh1 := Lib.hid (hh1.out.keep hb)); (try have hhi2 := Nat.le_trans hhi hb.size); (try clear hhi); (try have hhi := hhi2); (try clear hhi2)
      have x3 := Lib.hid hc
      clear hb hc
      go_wp2_with fail
      go_at_call 12
      refine (eqProfileS_calls _ _ n _ _ f _ xr1.out x3.out HN.out hn2).mono ?_
      rintro e w11 ⟨rfl, hb⟩
      replace k1 := Lib.hid (k1.out.trans (hb.mono k1.out.size)); (try replace gw1 := Lib.hid (gw1.out.keep hb)); (try replace xr1 := Lib.hid (xr1.out.keep hb)); (try replace xs1 := Lib.hid (xs1.out.kin (Kin.of hb))); (try replace gg1 := Lib.hid (gg1.out.keep hb)); (try replace hh1 := Lib.hid (hh1.out.keep hb)); (try have hhi2 := Nat.le_trans hhi hb.size); (try clear hhi); (try have hhi := hhi2); (try clear hhi2)
      clear hb x3 xr1
      go_wp2_with fail
      go_at_call 9
      refine (toHoleS_calls B m c2 ht hr hd _ (HH.out.below k1.out (Nat.le_refl _)) hm2).mono ?_
      rintro e w12 ⟨rfl, hb, -, hc⟩
      replace k1 := Lib.hid (k1.out.trans (hb.mono k1.out.size)); (try replace gw1 := Lib.hid (gw1.out.keep hb)); (try replace xr1 := Lib.hid (xr1.out.keep hb)); (try replace xs1 := Lib.hid (xs1.out.kin (Kin.of hb))); (try replace gg1 := Lib.hid (gg1.out.keep hb)); (try replace hh1 := Lib.hid (hh1.out.keep hb)); (try have hhi2 := Nat.le_trans hhi hb.size); (try clear hhi); (try have hhi := hhi2); (try clear hhi2)
      have x3 := Lib.hid hc
      clear hb hc
      go_wp2_with fail
      go_at_call 13
      refine (eqHoleS_calls _ _ m _ _ ht hr hd _ hh1.out.row x3.out hm2).mono ?_
      rintro e w13 ⟨rfl, hb⟩
      replace k1 := Lib.hid (k1.out.trans (hb.mono k1.out.size)); (try replace gw1 := Lib.hid (gw1.out.keep hb)); (try replace xr1 := Lib.hid (xr1.out.keep hb)); (try replace xs1 := Lib.hid (xs1.out.kin (Kin.of hb))); (try replace gg1 := Lib.hid (gg1.out.keep hb)); (try replace hh1 := Lib.hid (hh1.out.keep hb)); (try have hhi2 := Nat.le_trans hhi hb.size); (try clear hhi); (try have hhi := hhi2); (try clear hhi2)
      clear hb x3
      go_wp2_with fail
      go_at_call 14
      refine (markProfileS_kin _ n _ lo1 hi1 1 _ _ xs1.out hhi hsum (by omega)).mono ?_
      rintro e w14 ⟨rfl, hg⟩
      have hlo2 := Nat.le_trans hlohi hhi
      have hbl := hg.below hlo2
      replace k1 := Lib.hid (k1.out.trans (hbl.mono hlo))
      replace gw1 := Lib.hid (int_same gw1.out (fun h => hg.far _ (Nat.lt_of_lt_of_le (hGw2 h) hlo2) (by have := hGw2 h; omega)))
      replace gg1 := Lib.hid (int_same gg1.out (fun h => hg.far _ (gg1.out.lt h) (by omega)))
      replace hh1 := Lib.hid (hole_same hh1.out (fun h => hg.far _ (hole_lt hh1.out h) (by omega)))
      obtain ⟨M, hM⟩ : ∃ M : Nat, M = 1 + n + 3 * sumN (fun i => (f i).n) n := ⟨_, rfl⟩
      rw [← hM]
      have hMb : M ≤ 8000000 := by omega
      clear hM hg xs1 hbl hhi hlo2
      go_wp2_with fail
      go_at_call 15
      refine (markHoleS_calls _ m _ _ ht hr hd M _ hh1.out hm2 (by omega)).mono ?_
      rintro e w15 ⟨rfl, hg⟩
      replace k1 := Lib.hid (k1.out.grown hg k1.out.size (fun k hk => by cases hk; omega))
      replace gw1 := Lib.hid (gw1.out.grown hg (fun h => by have := hGw2 h; omega))
      replace gg1 := Lib.hid (gg1.out.grown hg (fun _ => by omega))
      obtain ⟨M1, hM1⟩ : ∃ M1 : Nat, M1 = M + 3 * m := ⟨_, rfl⟩
      rw [← hM1]
      have hMb1 : M1 ≤ 16000000 := by omega
      clear hM1 hg hh1
      go_wp2_with fail
      go_at_call 11
      refine (eqInt64S_calls _ _ L _ _ P _ gg1.out.row gw1.out.row hL).mono ?_
      rintro e w16 ⟨rfl, hb⟩
      replace k1 := Lib.hid (k1.out.trans (hb.mono k1.out.size)); (try replace gw1 := Lib.hid (gw1.out.keep hb)); (try replace xr1 := Lib.hid (xr1.out.keep hb)); (try replace xs1 := Lib.hid (xs1.out.kin (Kin.of hb))); (try replace gg1 := Lib.hid (gg1.out.keep hb)); (try replace hh1 := Lib.hid (hh1.out.keep hb)); (try have hhi2 := Nat.le_trans hhi hb.size); (try clear hhi); (try have hhi := hhi2); (try clear hhi2)
      clear hb
      go_wp2_with fail
      go_at_call 16
      refine (markInt64S_calls _ L _ Gg P 1 _ gg1.out hL (by omega)).mono ?_
      rintro e w17 ⟨rfl, hm1, hg⟩
      replace k1 := Lib.hid (k1.out.grown hg k1.out.size (fun k hk => by cases hk; omega))
      replace gw1 := Lib.hid (gw1.out.grown hg (fun h => by have := hGw2 h; omega))
      clear gg1
      have gg1 := Lib.hid hm1
      obtain ⟨M3, hM3⟩ : ∃ M : Nat, M = 1 + L := ⟨_, rfl⟩
      rw [← hM3]
      have HM3 := Lib.hid hM3
      have hMb3 : M3 ≤ 4000000 := by omega
      clear hM3 hg hm1
      go_wp2_with fail
      go_at_call 17
      refine (heldInt64S_calls _ L _ 1 _ gg1.out.row hL (by omega)).mono ?_
      rintro e w18 ⟨rfl, rfl⟩
      rw [← HM3.out]
      go_wp2_with fail
      go_at_call 8
      refine (toProfileS_calls A n c f _ (HR.out.below k1.out (Nat.le_refl _)) HN.out hn2).mono ?_
      rintro e w3 ⟨rfl, hb, -, hc, -⟩
      have x1 := Lib.hid hc
      replace k1 := Lib.hid (k1.out.trans (hb.mono k1.out.size)); (try replace gw1 := Lib.hid (gw1.out.keep hb)); (try replace xr1 := Lib.hid (xr1.out.keep hb)); (try replace xs1 := Lib.hid (xs1.out.kin (Kin.of hb))); (try replace gg1 := Lib.hid (gg1.out.keep hb)); (try replace hh1 := Lib.hid (hh1.out.keep hb)); (try have hhi2 := Nat.le_trans hhi hb.size); (try clear hhi); (try have hhi := hhi2); (try clear hhi2)
      clear hb hc
      go_wp2_with fail
      go_at_call 9
      refine (toHoleS_calls B m c2 ht hr hd _ (HH.out.below k1.out (Nat.le_refl _)) hm2).mono ?_
      rintro e w4 ⟨rfl, hb, -, hc⟩
      have x2 := Lib.hid hc
      replace x1 := Lib.hid (x1.out.keep hb)
      replace k1 := Lib.hid (k1.out.trans (hb.mono k1.out.size)); (try replace gw1 := Lib.hid (gw1.out.keep hb)); (try replace xr1 := Lib.hid (xr1.out.keep hb)); (try replace xs1 := Lib.hid (xs1.out.kin (Kin.of hb))); (try replace gg1 := Lib.hid (gg1.out.keep hb)); (try replace hh1 := Lib.hid (hh1.out.keep hb)); (try have hhi2 := Nat.le_trans hhi hb.size); (try clear hhi); (try have hhi := hhi2); (try clear hhi2)
      clear hb hc
      go_wp2_with fail
      go_at_call 10
      refine (CI.out _ _ _ _ _ x1.out x2.out).mono ?_
      rintro e w19 ⟨v, rfl, Ah, chh, Gh2, rfl, hio, -, hb⟩
      replace k1 := Lib.hid (k1.out.trans (hb.mono k1.out.size)); (try replace gw1 := Lib.hid (gw1.out.keep hb)); (try replace xr1 := Lib.hid (xr1.out.keep hb)); (try replace xs1 := Lib.hid (xs1.out.kin (Kin.of hb))); (try replace gg1 := Lib.hid (gg1.out.keep hb)); (try replace hh1 := Lib.hid (hh1.out.keep hb)); (try have hhi2 := Nat.le_trans hhi hb.size); (try clear hhi); (try have hhi := hhi2); (try clear hhi2)
      have gh1 := Lib.hid hio
      clear hb hio x1 x2 CI
      go_wp2_with fail
      go_at_call 11
      refine (eqInt64S_calls _ _ L _ _ P _ gh1.out.row gw1.out.row hL).mono ?_
      rintro e w20 ⟨rfl, hb⟩
      replace k1 := Lib.hid (k1.out.trans (hb.mono k1.out.size)); (try replace gw1 := Lib.hid (gw1.out.keep hb)); (try replace xr1 := Lib.hid (xr1.out.keep hb)); (try replace xs1 := Lib.hid (xs1.out.kin (Kin.of hb))); (try replace gg1 := Lib.hid (gg1.out.keep hb)); (try replace hh1 := Lib.hid (hh1.out.keep hb)); (try have hhi2 := Nat.le_trans hhi hb.size); (try clear hhi); (try have hhi := hhi2); (try clear hhi2)
      clear hb gh1
      go_wp2_with fail
      go_at_call 17
      refine (heldInt64S_calls _ L _ 1 _ gg1.out.row hL (by omega)).mono ?_
      rintro e w21 ⟨rfl, rfl⟩
      rw [← HM3.out]
      go_wp2
      go_ret
      exact ⟨rfl, k1.out⟩
theorem own : ownKnob Try.prog.godebug = none := by kernel_rfl
theorem laidOut : laidOutB Try.prog = true := by kernel_rfl
set_option maxRecDepth 100000 in
theorem lifted (os : Os) (started : os.Started) (H : Type) (enc : TypeId × Value → H) :
    ReturnsInHanded {} Try.checked os 3 .any (Rows.fnExactPlaceMouldsSpec.pre6 enc Try.prog Try.f3 Rows.fnExactPlaceMouldsRow.domain false) (Rows.fnExactPlaceMouldsSpec.post enc Try.prog Try.f3 false true false false) := by
  refine returnsInHanded_of_change (C := Try.checked) own started (by kernel_rfl) Try.func3
    (ChangeSpec.witness6 (enc := enc) (C := Try.checked) false ⟨#[], #[.slice none 0 0, .int .i64 0, .slice none 0 0], []⟩ 8 (by kernel_rfl) (by kernel_rfl) (by kernel_rfl) (by kernel_rfl)) ?_
  intro W base args ds gs before hval0 hW hcnd _
  have hval : ∀ (j : Nat) t v, Try.f3.params[j]? = some t → args[j]? = some v → Value.okWide Try.prog W .any base t v := hval0
  have hW' := hW
  obtain ⟨p, q, hA0, hV, rfl, hfz, hnd⟩ := hW
  have hA : DataW.TrodAll enc Try.prog W 0 (fun _ => true) true Try.f3.params.toList args.toList ds p := hA0
  rw [Try.params3] at hA hval
  obtain ⟨v0, vs0, d0, ds0, p0, q0, hargs, rfl, rfl, h0, r0⟩ := trodAll_cons hA
  obtain ⟨v1, vs1, d1, ds1, p1, q1, rfl, rfl, rfl, h1, r1⟩ := trodAll_cons r0
  obtain ⟨v2, vs2, d2, ds2, p2, q2, rfl, rfl, rfl, h2, r2⟩ := trodAll_cons r1
  obtain ⟨rfl, rfl, rfl⟩ := trodAll_nil r2
  obtain rfl : args = #[v0, v1, v2] := by cases args; simp_all
  obtain ⟨rfl, rfl⟩ := trodVars_none hV
  have k0 := h0
  have lt0 : ∀ x ∈ p0, x.block < W.heap.size := by obtain ⟨m, hm⟩ := k0; exact DataW.trod_lt m _ _ _ hm
  have k1 := h1
  have lt1 : ∀ x ∈ p1, x.block < W.heap.size := by obtain ⟨m, hm⟩ := k1; exact DataW.trod_lt m _ _ _ hm
  have k2 := h2
  have lt2 : ∀ x ∈ p2, x.block < W.heap.size := by obtain ⟨m, hm⟩ := k2; exact DataW.trod_lt m _ _ _ hm
  obtain ⟨A0, n0, m0, rfl⟩ := okWide_slice Try.underlying22 (hval 0 22 v0 rfl rfl)
  obtain ⟨fu0, hf0⟩ := h0
  obtain ⟨f0, hr0, hn0, hft0⟩ := openProfileS hf0
  obtain ⟨a1, rfl, _, _, wa1⟩ := open_int Try.underlying2 (hval 1 2 v1 rfl rfl) h1
  obtain ⟨A2, n2, m2, rfl⟩ := okWide_slice Try.underlying23 (hval 2 23 v2 rfl rfl)
  obtain ⟨fu2, hf2⟩ := h2
  obtain ⟨s2_0, a2_1, a2_2, hr2, hn2, c2_0, c2_1, c2_2⟩ := openHoleS hf2
  clear hA0 hval0
  refine (walk A0 n0 m0 f0 a1 A2 n2 m2 s2_0 a2_1 a2_2 W hr0 hn0 hft0 wa1 hr2 hn2 c2_0 c2_1 c2_2).mono fun e W' ⟨he, bel⟩ => ?_
  subst he
  exact ⟨_, rfl, _, _, _, [], _, [], hW', trodAll_mk1 (shut_bool Try.underlying4 _), (trodAll_cons_mk (Below.trod laidOut (by kernel_rfl) (of_decide_eq_true (by kernel_rfl)) k0 bel lt0) (trodAll_cons_mk (Below.trod laidOut (by kernel_rfl) (of_decide_eq_true (by kernel_rfl)) k1 bel lt1) (trodAll_cons_mk (Below.trod laidOut (by kernel_rfl) (of_decide_eq_true (by kernel_rfl)) k2 bel lt2) trodAll_mk0))), rfl, bel.frame _, fun h => by cases h⟩
set_option maxHeartbeats 20000000 in
theorem closed : joinedFacts Try.pinned.checked.prog 3 Try.f3 Rows.fnExactPlaceMouldsSpec Rows.fnExactPlaceMouldsRow = true := by
  unfold joinedFacts
  simp only [Bool.and_eq_true]
  and_intros
  all_goals (as_aux_lemma => kernel_rfl)
theorem proved : Rows.FnExactPlaceMouldsSaid :=
  OpenClaim.holds_of_wide 3 Try.f3 rfl rfl rfl rfl rfl rfl rfl ⟨rfl, rfl, rfl, rfl, rfl⟩ rfl rfl rfl rfl rfl (by kernel_rfl) Try.func3 closed
    (of_decide_eq_true (by kernel_rfl)) (by unfold Func.isWrapper; first | (rw [if_pos (by decide +kernel)]; kernel_rfl) | (rw [if_neg (by decide +kernel)]; exact ⟨rfl, rfl⟩))
    (fun os started H enc _ => lifted os started H enc)
end Go.Proofs.Ytonoeohmpaegdaa.FnExactPlaceMoulds
