/- PlaceMoulds (the program's). -/
import Derived.Test.YtonoeohmpaegdaaPlaceO
namespace Go.Proofs.Ytonoeohmpaegdaa
set_option linter.unusedVariables false
set_option linter.unusedSimpArgs false
open Go.RowKit

set_option maxRecDepth 20000 in
set_option maxHeartbeats 8000000 in
theorem PlaceMoulds_calls (A : Option Addr) (c : Nat) (B : Option Addr) (c2 : Nat) (f : Nat → ProfV) (n : Nat) (wall : Int) (m : Nat) (ht : Nat → ByteArray) (hr hd : Nat → Int) (w : World) (h : ProfRow w A n f) (hf : ∀ i, i < n → FineP (f i)) (hn : n ≤ 1048576) (hrow2 : HoleRow w B m ht hr hd) (hts : ∀ i, i < m → (ht i).size ≤ maxLen) (hm : m ≤ maxLen) (hm2 : m ≤ 1048576) :
    Calls Try.prog 10 #[.slice A n c, .int .i64 wall, .slice B m c2] w fun e w' => PmOut w f n wall m ht hr hd e w' := by
  have H := Lib.hid h
  have HF := Lib.hid hf
  have HH := Lib.hid hrow2
  have HT := Lib.hid hts
  clear h hf hrow2 hts
  cases q1 : profsB f n
  · have HAN : Hid (anyB (fun i => !profV (f i)) n = true) := Lib.hid (by unfold profsB at q1; simpa using q1)
    go_enter Try.func10, Try.ntmps10
    go_wp2_with (go_at_call 41; refine (anyProf A n c f (fun i => !profV (f i)) w H.out hn (fun k W AK CK hk hb hrow => place1_calls (f k).id AK (f k).n CK (f k).p (f k).q (f k).h W (HF.out k hk).1 hrow (HF.out k hk).2)).mono ?_; rintro e w1 ⟨rfl, hb⟩; rw [HAN.out]; have HB := Lib.hid hb; clear hb)
    exact bodyPost_ret (v := .tuple #[.slice none 0 0, .int .i64 1]) (by simp [results, Try.results10, go_sem]) rfl (PmOut.none HB.out (by simp only [pmL, pmOk, q1]; rfl) (by simp only [pmC, pmOk, q1]; rfl))
  · have HAN : Hid (anyB (fun i => !profV (f i)) n = false) := Lib.hid (by unfold profsB at q1; simpa using q1)
    cases q2 : (allB (goodAt (fun i => holeB (ht i) (hr i) (hd i)) ht) m && decide ((m : Int) ≤ 8))
    · go_enter Try.func10, Try.ntmps10
      go_wp2_with (first | (go_at_call 41; refine (anyProf A n c f (fun i => !profV (f i)) w H.out hn (fun k W AK CK hk hb hrow => place1_calls (f k).id AK (f k).n CK (f k).p (f k).q (f k).h W (HF.out k hk).1 hrow (HF.out k hk).2)).mono ?_; rintro e w1 ⟨rfl, hb⟩; rw [HAN.out]; have HB := Lib.hid hb; clear hb) | (go_at_call 44; refine (impl_ValidHoles_calls _ _ _ _ _ _ _ (HH.out.below HB.out (Nat.le_refl _)) HT.out hm).mono ?_; rintro e w2 ⟨rfl, hb⟩; rw [q2]; have HB2 := Lib.hid (HB.out.trans (hb.mono HB.out.size)); clear hb))
      exact bodyPost_ret (v := .tuple #[.slice none 0 0, .int .i64 1]) (by simp [results, Try.results10, go_sem]) rfl (PmOut.none HB2.out (by simp only [pmL, pmOk, q1, q2]; rfl) (by simp only [pmC, pmOk, q1, q2]; rfl))
    · cases q3 : inB wall 1 150000
      · go_enter Try.func10, Try.ntmps10
        go_wp2_with (first | (go_at_call 41; refine (anyProf A n c f (fun i => !profV (f i)) w H.out hn (fun k W AK CK hk hb hrow => place1_calls (f k).id AK (f k).n CK (f k).p (f k).q (f k).h W (HF.out k hk).1 hrow (HF.out k hk).2)).mono ?_; rintro e w1 ⟨rfl, hb⟩; rw [HAN.out]; have HB := Lib.hid hb; clear hb) | (go_at_call 44; refine (impl_ValidHoles_calls _ _ _ _ _ _ _ (HH.out.below HB.out (Nat.le_refl _)) HT.out hm).mono ?_; rintro e w2 ⟨rfl, hb⟩; rw [q2]; have HB2 := Lib.hid (HB.out.trans (hb.mono HB.out.size)); clear hb) | (go_at_call 45; refine (isMouldWallP_calls _ _).mono ?_; rintro e w3 ⟨rfl, rfl⟩; rw [q3]))
        exact bodyPost_ret (v := .tuple #[.slice none 0 0, .int .i64 2]) (by simp [results, Try.results10, go_sem]) rfl (PmOut.none HB2.out (by simp only [pmL, pmOk, q1, q2, q3]; rfl) (by simp only [pmC, pmOk, q1, q2, q3]; rfl))
      · by_cases hn8 : 8 < n
        · have hd8 : decide (8 < n) = true := decide_eq_true hn8
          have hd9 : decide ((n : Int) > 8) = true := decide_eq_true (by omega)
          go_enter Try.func10, Try.ntmps10
          go_wp2_with (first | (go_at_call 41; refine (anyProf A n c f (fun i => !profV (f i)) w H.out hn (fun k W AK CK hk hb hrow => place1_calls (f k).id AK (f k).n CK (f k).p (f k).q (f k).h W (HF.out k hk).1 hrow (HF.out k hk).2)).mono ?_; rintro e w1 ⟨rfl, hb⟩; rw [HAN.out]; have HB := Lib.hid hb; clear hb) | (go_at_call 44; refine (impl_ValidHoles_calls _ _ _ _ _ _ _ (HH.out.below HB.out (Nat.le_refl _)) HT.out hm).mono ?_; rintro e w2 ⟨rfl, hb⟩; rw [q2]; have HB2 := Lib.hid (HB.out.trans (hb.mono HB.out.size)); clear hb) | (go_at_call 45; refine (isMouldWallP_calls _ _).mono ?_; rintro e w3 ⟨rfl, rfl⟩; rw [q3]))
          exact bodyPost_ret (v := .tuple #[.slice none 0 0, .int .i64 5]) (by simp [results, Try.results10, go_sem]) rfl (PmOut.none HB2.out (by simp only [pmL, pmOk, q1, q2, q3, hd8]; rfl) (by simp only [pmC, pmOk, q1, q2, q3, hd8]; rfl))
        · have hd8 : decide (8 < n) = false := decide_eq_false hn8
          have hd9 : ¬ (8 : Int) < (n : Int) := by omega
          have hm8 : m ≤ 8 := by
            have := of_decide_eq_true (Bool.and_eq_true _ _ |>.mp q2).2
            omega
          have hpc : pmC f n wall m ht hr hd = 0 := by simp only [pmC, pmOk, q1, q2, q3, hd8]; rfl
          have hpl : pmL f n wall m ht hr hd = greedyC (pmCh f wall m hr hd) n 0 (setU 0) := by simp only [pmL, pmOk, q1, q2, q3, hd8]; rfl
          have HPC := Lib.hid hpc
          have HPL := Lib.hid hpl
          have HQ := Lib.hid (profsB_of q1)
          obtain ⟨i0, hi, hz0, hz1, hz2⟩ := info_parts Int64_info
          obtain ⟨i1, hj, hy0, hy1, hy2⟩ := info_parts ints_info
          have H8 := Lib.hid (show ∀ k, ∀ i ∈ (pmCh f wall m hr hd) k, i < 8 from fun k i hi => by have := hitN_lt _ _ i hi; omega)
          have HL8 := Lib.hid (show ∀ k, ((pmCh f wall m hr hd) k).length ≤ 8 from fun k => by rw [pmCh, ← hits_len2]; have := hits_len (fitF f wall hr hd k) m; omega)
          clear hpc hpl
          go_enter Try.func10, Try.ntmps10
          go_wp2_with (first | (go_at_call 41; refine (anyProf A n c f (fun i => !profV (f i)) w H.out hn (fun k W AK CK hk hb hrow => place1_calls (f k).id AK (f k).n CK (f k).p (f k).q (f k).h W (HF.out k hk).1 hrow (HF.out k hk).2)).mono ?_; rintro e w1 ⟨rfl, hb⟩; rw [HAN.out]; have HB := Lib.hid hb; clear hb) | (go_at_call 44; refine (impl_ValidHoles_calls _ _ _ _ _ _ _ (HH.out.below HB.out (Nat.le_refl _)) HT.out hm).mono ?_; rintro e w2 ⟨rfl, hb⟩; rw [q2]; have HB2 := Lib.hid (HB.out.trans (hb.mono HB.out.size)); clear hb) | (go_at_call 45; refine (isMouldWallP_calls _ _).mono ?_; rintro e w3 ⟨rfl, rfl⟩; rw [q3]))
          have hzw := HB2.out.size
          clear hd8 hd9
          go_loopw [8, 37] (fun v i wr => ∃ (k : Nat) (xs : List Value), k ≤ n ∧ i = .int .i64 k ∧ Hid (wr.ownsRow w2.heap.size 26 1 v k xs) ∧ Hid (ChOwn wr xs k (pmCh f wall m hr hd)) ∧ Below w2.heap.size w2 wr) (fun _ i _ => n - (intOf i).toNat)
          case atStart => exact ⟨0, [], by omega, rfl, Lib.hid (World.ownsRow_nil _ _ _ _), Lib.hid ⟨rfl, fun i hi => absurd hi (Nat.not_lt_zero _)⟩, Below.refl _ _⟩
          case round =>
            obtain ⟨k, xs, hk, rfl, hown, hch, hbr⟩ := hrel
            have HB3 := Lib.hid (HB2.out.trans (hbr.mono HB2.out.size))
            by_cases hlt : k < n
            · have hpk := HQ.out k hlt
              obtain ⟨-, hn32, hx⟩ := prof_rng hpk
              have HX := Lib.hid hx
              have hbs := hbr.size
              obtain ⟨b, o, rfl, hrow⟩ := H.out (by omega)
              obtain ⟨AK, CK, c0, c1, c3⟩ := (hrow k hlt).keep HB3.out
              have C3 := Lib.hid c3
              have HR := Lib.hid hrow
              have hal := (Below.refl wr.heap.size wr).alloc (Nat.le_refl _) (.cells #[.string (f k).id, .slice AK (f k).n CK] 69)
              have HAL := Lib.hid hal
              clear hrow c3 hx hpk hal
              go_wp2_with fail
              go_at_call 46
              refine (holesFor_calls (f k).id AK (f k).n CK (f k).p (f k).q (f k).h wall B m c2 ht hr hd _ (C3.out.below HAL.out (Nat.le_refl _)) hn32 HX.out (inB_iff.1 q3) ((HH.out.below HB3.out (Nat.le_refl _)).below HAL.out (Nat.le_refl _)) hm2).mono ?_
              rintro e w4 ⟨v', rfl, Ah, chp, G, rfl, hio, hG, hb⟩
              have hb4 := HAL.out.trans (hb.mono HAL.out.size)
              have own4 := Lib.hid (own_keep hown.out hb4)
              have ch4 := Lib.hid (hch.out.keep hb4)
              have br4 := Lib.hid (hbr.trans (hb4.mono hbr.size))
              have hs4 := br4.out.size
              rw [hits_len2, hitP_eq] at hio
              rw [hits_len2]
              have IO := Lib.hid (show IntOwn w4 Ah ((pmCh f wall m hr hd) k).length (chP ((pmCh f wall m hr hd) k)) G from hio)
              have hlc : (hitN (fun i => fitH (f k).p (f k).h (f k).n wall (hr i) (hd i)) m).length = ((pmCh f wall m hr hd) k).length := rfl
              rw [hlc]
              generalize hLC : ((pmCh f wall m hr hd) k).length = LC
              have HLC := Lib.hid hLC
              clear hio hb hb4 hown hch hbr c0 c1 hlc hLC hG
              go_wp2_with (at_builtin; refine wpList_append_own _ rfl _ _ 87 rfl w2.heap.size 26 i1 (.slice none 0 0) 1 24 Try.underlying87 hj hy0 hy1 hy2 rfl (by decide) _ _ _ rfl (own4.out.alloc _) ⟨w4.heap.size, 0, none⟩ 1 1 [.slice Ah LC chp] rfl rfl (cell_one_new _ _ _) (fun u hu => by simp at hu; subst hu; rfl) (by unfold maxLen; omega) (by omega) (by simp; omega) ?_; intro v9 w9 hown' hgrow _; have hb2 := Lib.hid (below_append br4.out hs4 own4.out hgrow); have HOWN := Lib.hid hown'; have HCH := Lib.hid (ch4.out.snoc (c := chp) own4.out IO.out hgrow); clear hown' hgrow)
              go_roundw
              case rel => exact ⟨k + 1, xs ++ [.slice Ah LC chp], by omega, by go_num, HOWN, Lib.hid (by rw [← HLC.out]; exact HCH.out), hb2.out⟩
              case measure => simp [intOf]; omega
            · obtain rfl : n = k := by omega
              obtain ⟨Av, cv, rfl⟩ := own_sl hown.out
              have HM0 := Lib.hid (show ∀ W, Below wr.heap.size wr W → Calls Try.prog 47 #[.slice Av n cv, .int .i64 0] W (fun e w' => e = .returned (.int .i64 (mostC (pmCh f wall m hr hd) n 0 (setU 0) : Nat)) ∧ Below W.heap.size W w') from fun W hW => by
                rcases Nat.eq_zero_or_pos n with h0 | h0
                · subst h0
                  exact mostNone_calls Av cv 0 W
                · obtain ⟨g, cap, cur, hv, -, -, hcap, hcm, -, -⟩ := own_blk hown.out h0
                  simp only [Value.slice.injEq] at hv
                  obtain ⟨rfl, -, rfl⟩ := hv
                  exact mostPlaced_calls (pmCh f wall m hr hd) H8.out HL8.out n 0 g 0 cv 0 W ((hch.out.at hown.out).keep hW) (by omega) hcap hcm (by decide))
              go_wp2_with (go_at_call 47; refine (HM0.out wr (Below.refl _ _)).mono ?_; rintro e w5 ⟨rfl, hb5⟩; have own5 := Lib.hid (own_keep hown.out hb5); have ch5 := Lib.hid (hch.out.keep hb5); have HB5 := Lib.hid (HB3.out.trans (hb5.mono HB3.out.size)); clear hb5)
              clear hown hch HM0 hbr
              have hz5 := HB5.out.size
              obtain ⟨CH, hCH⟩ : ∃ CH, CH = (pmCh f wall m hr hd) := ⟨_, rfl⟩
              rw [← hCH] at H8 HL8 HPL ch5 ⊢
              clear hCH
              go_loopw [53, 11, 12, 13] (fun vi vl vu vp wo => ∃ (k r u : Nat) (pl : List Int), k + r = n ∧ vi = .int .i64 k ∧ vl = .int .i64 (mostC CH r k (setU u) : Nat) ∧ vu = .int .i64 u ∧ u < 256 ∧ Hid (wo.ownsRow w5.heap.size 2 1 vp pl.length (pl.map (Value.int .i64))) ∧ Hid (pl ++ greedyC CH r k (setU u) = greedyC CH n 0 (setU 0)) ∧ Hid (pl.length = k) ∧ Below w5.heap.size w5 wo) (fun vi _ _ _ _ => n - (intOf vi).toNat)
              case atStart => exact ⟨0, n, 0, [], by omega, rfl, rfl, rfl, by decide, Lib.hid (World.ownsRow_nil _ _ _ _), Lib.hid rfl, Lib.hid rfl, Below.refl _ _⟩
              case round =>
                obtain ⟨wo, hwo⟩ : ∃ wo, wo = wr := ⟨_, rfl⟩
                subst hwo
                obtain ⟨k, r, u, pl, hkr, rfl, rfl, rfl, hu, hpo, hpg, hpk, hbo⟩ := hrel
                cases r with
                | zero =>
                  obtain rfl : n = k := by omega
                  have HFIN := Lib.hid (show pl = greedyC CH n 0 (setU 0) by have := hpg.out; simpa [greedyC] using this)
                  have HOUT := Lib.hid (pmOut_own hpo.out hz5 hbo.size (HB5.out.trans (hbo.mono HB5.out.size)))
                  obtain ⟨Ap, cp, rfl⟩ := own_sl hpo.out
                  have HPK := Lib.hid hpk.out
                  clear hpo
                  go_wp2
                  refine bodyPost_ret (v := .tuple #[.slice Ap pl.length cp, .int .i64 0]) (by simp [results, Try.results10, go_sem]) rfl ?_
                  unfold PmOut
                  rw [HPC.out, HPL.out, ← HFIN.out]
                  exact ⟨_, rfl, HOUT.out⟩
                | succ r =>
                  have hkn : k < n := by omega
                  have hMle := most_le CH (r + 1) k (setU u)
                  have hsub : n - (k + 1) = r := by omega
                  have hle1 : (k : Int) + 1 ≤ (n : Int) := by omega
                  have hle0 : (0 : Int) ≤ (k : Int) + 1 := by omega
                  have ek : IntKind.i64.wrap ((k : Int) + 1) = (k : Int) + 1 := IntWalk.i64_in _ ⟨by omega, by omega⟩
                  have ekn : ((k : Int) + 1).toNat = k + 1 := by omega
                  have hn9 : n ≤ 8 := by omega
                  have hpk8 : pl.length ≤ 8 := by have := hpk.out; omega
                  obtain ⟨g, cap, cur, hv, -, -, hcap, hcm, -, -⟩ := own_blk own5.out (by omega)
                  simp only [Value.slice.injEq] at hv
                  obtain ⟨rfl, -, rfl⟩ := hv
                  have CAT := Lib.hid (ch5.out.at own5.out)
                  obtain ⟨A0, c0, hx0, hrow0⟩ := CAT.out k hkn
                  simp only [Nat.zero_add] at hx0 hrow0
                  have x0 := (hbo.cell (p := ⟨g, k, none⟩) (cell_lt hx0)).trans hx0
                  have hL8 := HL8.out k
                  have HMEM := Lib.hid (H8.out k)
                  have HROW := Lib.hid hrow0
                  obtain ⟨L, hLe⟩ : ∃ L, L = (CH k).length := ⟨_, rfl⟩
                  rw [← hLe] at x0 hL8 HROW
                  have HLE := Lib.hid hLe
                  obtain ⟨M, hM⟩ : ∃ M, M = mostC CH (r + 1) k (setU u) := ⟨_, rfl⟩
                  rw [← hM] at hMle ⊢
                  have HM := Lib.hid hM
                  unfold maxLen at hcm
                  clear hLe hM hx0 hrow0
                  have HKR := Lib.hid hkr
                  rcases (show (cv = k + 1 ∧ r = 0) ∨ (¬ cv = k + 1 ∧ k + 2 ≤ cv) by omega) with ⟨hcv, rfl⟩ | ⟨hc2, hc3⟩
                  · have hcv2 : (cv = k + 1) = True := eq_true hcv
                    have hcv3 : cv - (k + 1) = 0 := by omega
                    clear hkr hcv
                    go_wp2
                    go_loopw [60, 16, 12, 11] (fun vj v16 v12 v11 wi => ∃ j : Nat, j ≤ L ∧ vj = .int .i64 j ∧ v16 = .int .i64 (-1) ∧ v12 = .int .i64 u ∧ v11 = .int .i64 M ∧ Hid (∀ i, i < j → takeP CH 0 k u (((CH k)[i]?).getD 0) = false) ∧ Below wo.heap.size wo wi) (fun vj _ _ _ _ => L - (intOf vj).toNat)
                    case atStart => exact ⟨0, by omega, rfl, rfl, rfl, rfl, Lib.hid fun i hi => absurd hi (Nat.not_lt_zero _), Below.refl _ _⟩
                    case round =>
                      obtain ⟨wi, hwi⟩ : ∃ wi, wi = wr := ⟨_, rfl⟩
                      subst hwi
                      obtain ⟨j, hj, rfl, rfl, rfl, rfl, hno, hbi⟩ := hrel
                      have HB7 := Lib.hid (hbo.trans (hbi.mono hbo.size))
                      by_cases hlt : j < L
                      · obtain ⟨x, hx⟩ : ∃ x, x = (CH k)[j]'(by rw [← HLE.out]; exact hlt) := ⟨_, rfl⟩
                        have hx8 : x < 8 := HMEM.out x (by rw [hx]; exact List.getElem_mem _)
                        obtain ⟨b0, o0, rfl, hrow⟩ := HROW.out (by omega)
                        have c1 : wi.cell? ⟨b0, o0 + j, none⟩ = some (.int .i64 x) := by
                          rw [hx, ← chP_at (by rw [← HLE.out]; exact hlt)]
                          exact (HB7.out.cell (p := ⟨b0, o0 + j, none⟩) (cell_lt (hrow j hlt))).trans (hrow j hlt)
                        have hgx : ((CH k)[j]?).getD 0 = x := by rw [hx, List.getElem?_eq_getElem (by rw [← HLE.out]; exact hlt)]; rfl
                        have HGX := Lib.hid hgx
                        have HXE := Lib.hid hx
                        have HR := Lib.hid hrow
                        clear hrow hx hgx
                        have hnext : takeP CH 0 k u x = false → ∀ i, i < j + 1 → takeP CH 0 k u (((CH k)[i]?).getD 0) = false := fun h i hi => by
                          rcases Nat.lt_or_ge i j with q | q
                          · exact hno.out i q
                          · obtain rfl : i = j := by omega
                            rw [HGX.out]; exact h
                        have HNX := Lib.hid hnext
                        clear hnext
                        cases qb : setU u x
                        · have hand : bits BinOp.and IntKind.i64 ((u : Int) / 2 ^ x) 1 = 0 := and8 hu hx8 qb
                          have hor := or8 hu hx8
                          have hw2 := pow8 hx8
                          have hml := most_le CH 0 (k + 1) (setU (u ||| 1 <<< x))
                          have htk : takeP CH 0 k u x = (1 + mostC CH 0 (k + 1) (setU (u ||| 1 <<< x)) == M) := by
                            unfold takeP
                            rw [qb, ← setU_upd, ← HM.out]; rfl
                          have HC := Lib.hid (show ∀ W, Below w5.heap.size w5 W → Calls Try.prog 47 #[.slice (some ⟨g, 0, none⟩) 0 0, .int .i64 ((u ||| 1 <<< x : Nat) : Int)] W (fun e w' => e = .returned (.int .i64 (mostC CH 0 (k + 1) (setU (u ||| 1 <<< x)) : Nat)) ∧ Below W.heap.size W w') from fun W hW => mostPlaced_calls CH H8.out HL8.out 0 (k + 1) g 0 0 (u ||| 1 <<< x) W (by
                              have h4 : ChAt w5 g 0 0 CH (k + 1) := fun i hi => by
                                have h5 := CAT.out (k + 1 + i) (by have := HKR.out; omega)
                                simp only [Nat.zero_add] at h5
                                first | exact absurd hi (Nat.not_lt_zero _) | exact h5
                              exact h4.keep hW) (by have := HKR.out; omega) (by have := HKR.out; omega) (by unfold maxLen; omega) (setU_lt hu hx8))
                          generalize hM2 : mostC CH 0 (k + 1) (setU (u ||| 1 <<< x)) = M2 at HC hml htk
                          have HM2 := Lib.hid hM2
                          have HTK := Lib.hid htk
                          have ew : IntKind.i64.wrap (1 + (M2 : Int)) = 1 + (M2 : Int) := IntWalk.i64_in _ ⟨by have := HKR.out; omega, by have := HKR.out; omega⟩
                          clear hM2 htk
                          go_wp2_with fail
                          refine wp_gen (fun W0 hW0 => ?_)
                          have s0_ : Below wo.heap.size wo W0 := by rw [hW0]; exact hbi
                          have s1_ : wo.heap.size ≤ W0.heap.size := by rw [hW0]; exact hbi.size
                          clear hW0
                          refine wp_region_held_drew (S := fun w' => Below wo.heap.size wo w' ∧ wo.heap.size ≤ w'.heap.size) (by kernel_rfl) ?_ (fun hHeld => ?_)
                          · exact ⟨s0_.drew, s1_⟩
                          clear s0_ s1_
                          refine take_yes (i := 0) (d := 64) (v := ?_) _ rfl rfl (by kernel_rfl) (by kernel_rfl) (by kernel_rfl) (fun _ _ _ _ h => h) (by rfl) ?_ (by assumption) ?_
                          rotate_left 1
                          · ((intro w hSw; (try dsimp only at hSw); go_simp) <;> (try with_reducible rfl))
                          (try simp only [Act.put, List.setIfInBounds_toArray, List.set_cons_zero, List.set_cons_succ])
                          refine take_yes (i := 1) (d := 65) (v := ?_) _ rfl rfl (by kernel_rfl) (by kernel_rfl) (by kernel_rfl) (fun _ _ _ _ h => h) (by rfl) ?_ (by assumption) ?_
                          rotate_left 1
                          · ((intro w hSw; (try dsimp only at hSw); go_simp) <;> (try with_reducible rfl))
                          (try simp only [Act.put, List.setIfInBounds_toArray, List.set_cons_zero, List.set_cons_succ])
                          refine take_yes (i := 2) (d := 66) (v := ?_) _ rfl rfl (by kernel_rfl) (by kernel_rfl) (by kernel_rfl) (fun _ _ _ _ h => h) (by rfl) ?_ (by assumption) ?_
                          rotate_left 1
                          · ((intro w hSw; (try dsimp only at hSw); go_simp) <;> (try with_reducible rfl))
                          (try simp only [Act.put, List.setIfInBounds_toArray, List.set_cons_zero, List.set_cons_succ])
                          refine take_yes (i := 3) (d := 67) (v := ?_) _ rfl rfl (by kernel_rfl) (by kernel_rfl) (by kernel_rfl) (fun _ _ _ _ h => h) (by rfl) ?_ (by assumption) ?_
                          rotate_left 1
                          · ((intro w hSw; (try dsimp only at hSw); go_simp) <;> (try with_reducible rfl))
                          (try simp only [Act.put, List.setIfInBounds_toArray, List.set_cons_zero, List.set_cons_succ])
                          refine take_yes (i := 4) (d := 68) (v := ?_) _ rfl rfl (by kernel_rfl) (by kernel_rfl) (by kernel_rfl) (fun _ _ _ _ h => h) (by rfl) ?_ (by assumption) ?_
                          rotate_left 1
                          · ((intro w hSw; (try dsimp only at hSw); go_simp) <;> (try with_reducible rfl))
                          (try simp only [Act.put, List.setIfInBounds_toArray, List.set_cons_zero, List.set_cons_succ])
                          refine take_yes (i := 5) (d := 69) (v := ?_) _ rfl rfl (by kernel_rfl) (by kernel_rfl) (by kernel_rfl) (fun _ _ _ _ h => h) (by rfl) ?_ (by assumption) ?_
                          rotate_left 1
                          · ((intro w hSw; (try dsimp only at hSw); go_simp) <;> (try with_reducible rfl))
                          (try simp only [Act.put, List.setIfInBounds_toArray, List.set_cons_zero, List.set_cons_succ])
                          refine take_yes (i := 6) (d := 70) (v := ?_) _ rfl rfl (by kernel_rfl) (by kernel_rfl) (by kernel_rfl) (fun _ _ _ _ h => h) (by rfl) ?_ (by assumption) ?_
                          rotate_left 1
                          · ((intro w hSw; (try dsimp only at hSw); go_simp) <;> (try with_reducible rfl))
                          (try simp only [Act.put, List.setIfInBounds_toArray, List.set_cons_zero, List.set_cons_succ])
                          refine take_yes (i := 7) (d := 71) (v := ?_) _ rfl rfl (by kernel_rfl) (by kernel_rfl) (by kernel_rfl) (fun _ _ _ _ h => h) (by rfl) ?_ (by assumption) ?_
                          rotate_left 1
                          · ((intro w hSw; (try dsimp only at hSw); go_simp) <;> (try with_reducible rfl))
                          (try simp only [Act.put, List.setIfInBounds_toArray, List.set_cons_zero, List.set_cons_succ])
                          refine take_yes (i := 8) (d := 72) (v := ?_) _ rfl rfl (by kernel_rfl) (by kernel_rfl) (by kernel_rfl) (fun _ _ _ _ h => h) (by rfl) ?_ (by assumption) ?_
                          rotate_left 1
                          · ((intro w hSw; (try dsimp only at hSw); go_simp) <;> (try with_reducible rfl))
                          (try simp only [Act.put, List.setIfInBounds_toArray, List.set_cons_zero, List.set_cons_succ])
                          refine take_yes (i := 9) (d := 73) (v := ?_) _ rfl rfl (by kernel_rfl) (by kernel_rfl) (by kernel_rfl) (fun _ _ _ _ h => h) (by rfl) ?_ (by assumption) ?_
                          rotate_left 1
                          · ((intro w hSw; (try dsimp only at hSw); go_simp) <;> (try with_reducible rfl))
                          (try simp only [Act.put, List.setIfInBounds_toArray, List.set_cons_zero, List.set_cons_succ])
                          refine take_yes (i := 10) (d := 74) (v := ?_) _ rfl rfl (by kernel_rfl) (by kernel_rfl) (by kernel_rfl) (fun _ _ _ _ h => h) (by rfl) ?_ (by assumption) ?_
                          rotate_left 1
                          · ((intro w hSw; (try dsimp only at hSw); go_simp) <;> (try with_reducible rfl))
                          (try simp only [Act.put, List.setIfInBounds_toArray, List.set_cons_zero, List.set_cons_succ])
                          refine take_yes (i := 11) (d := 75) (v := ?_) _ rfl rfl (by kernel_rfl) (by kernel_rfl) (by kernel_rfl) (fun _ _ _ _ h => h) (by rfl) ?_ (by assumption) ?_
                          rotate_left 1
                          · ((intro w hSw; (try dsimp only at hSw); go_simp) <;> (try with_reducible rfl))
                          (try simp only [Act.put, List.setIfInBounds_toArray, List.set_cons_zero, List.set_cons_succ])
                          refine take_yes (i := 12) (d := 76) (v := ?_) _ rfl rfl (by kernel_rfl) (by kernel_rfl) (by kernel_rfl) (fun _ _ _ _ h => h) (by rfl) ?_ (by assumption) ?_
                          rotate_left 1
                          · ((intro w hSw; (try dsimp only at hSw); go_simp) <;> (try with_reducible rfl))
                          (try simp only [Act.put, List.setIfInBounds_toArray, List.set_cons_zero, List.set_cons_succ])
                          refine take_yes (i := 13) (d := 77) (v := ?_) _ rfl rfl (by kernel_rfl) (by kernel_rfl) (by kernel_rfl) (fun _ _ _ _ h => h) (by rfl) ?_ (by assumption) ?_
                          rotate_left 1
                          · ((intro w hSw; (try dsimp only at hSw); go_simp) <;> (try with_reducible rfl))
                          (try simp only [Act.put, List.setIfInBounds_toArray, List.set_cons_zero, List.set_cons_succ])
                          refine take_yes (i := 16) (d := 80) (v := ?_) _ rfl rfl (by kernel_rfl) (by kernel_rfl) (by kernel_rfl) (fun _ _ _ _ h => h) (by rfl) ?_ (by assumption) ?_
                          rotate_left 1
                          · ((intro w hSw; (try dsimp only at hSw); go_simp) <;> (try with_reducible rfl))
                          (try simp only [Act.put, List.setIfInBounds_toArray, List.set_cons_zero, List.set_cons_succ])
                          (refine wpAnyH_ready (rs := [14]) (by kernel_rfl) (by simp) ?_; refine AllReadyH.cons rfl (fun K hK => ?_) AllReadyH.nil; go_simp; go_at_call 47; refine (HC.out _ (hbo.trans ((And.left hHeld).mono hbo.size))).mono ?_; rintro e wd ⟨rfl, hb⟩; refine hK.out _ _ (by obtain ⟨x0_, x1_⟩ := hHeld; exact ⟨x0_.trans (hb.mono x0_.size), Nat.le_trans x1_ hb.size⟩) (fun hHeld2 => ?_); clear hK K hHeld hb; have hHeld := hHeld2; clear hHeld2; (try simp only [Act.put, List.setIfInBounds_toArray, List.set_cons_zero, List.set_cons_succ]))
                          refine take_yes (i := 15) (d := 79) (v := ?_) _ rfl rfl (by kernel_rfl) (by kernel_rfl) (by kernel_rfl) (fun _ _ _ _ h => h) (by rfl) ?_ (by assumption) ?_
                          rotate_left 1
                          · ((intro w hSw; (try dsimp only at hSw); go_simp) <;> (try with_reducible rfl))
                          (try simp only [Act.put, List.setIfInBounds_toArray, List.set_cons_zero, List.set_cons_succ])
                          refine take_yes (i := 17) (d := 81) (v := ?_) _ rfl rfl (by kernel_rfl) (by kernel_rfl) (by kernel_rfl) (fun _ _ _ _ h => h) (by rfl) ?_ (by assumption) ?_
                          rotate_left 1
                          · ((intro w hSw; (try dsimp only at hSw); go_simp) <;> (try with_reducible rfl))
                          (try simp only [Act.put, List.setIfInBounds_toArray, List.set_cons_zero, List.set_cons_succ])
                          refine take_yes (i := 18) (d := 82) (v := ?_) _ rfl rfl (by kernel_rfl) (by kernel_rfl) (by kernel_rfl) (fun _ _ _ _ h => h) (by rfl) ?_ (by assumption) ?_
                          rotate_left 1
                          · ((intro w hSw; (try dsimp only at hSw); go_simp) <;> (try with_reducible rfl))
                          (try simp only [Act.put, List.setIfInBounds_toArray, List.set_cons_zero, List.set_cons_succ])
                          refine wpAnyH_done (by kernel_rfl) ?_ _
                          obtain ⟨z0, z1⟩ := hHeld
                          have PO := Lib.hid (own_keep hpo.out z0)
                          have HB6 := Lib.hid (hbo.trans (z0.mono hbo.size))
                          have hb6 := HB6.out.size
                          by_cases hMM : 1 + M2 = M
                          · have hM3 : ((1 : Int) + (M2 : Int) == (M : Int)) = true := by rw [← hMM]; simp
                            have e9 : IntKind.i64.wrap ((M : Int) - 1) = (M2 : Int) := by rw [show (M : Int) - 1 = (M2 : Int) by omega]; exact IntWalk.i64_in _ ⟨by have := HKR.out; omega, by have := HKR.out; omega⟩
                            have hfind : (CH k).find? (takeP CH 0 k u) = some x := by
                              have h6 := find_take (p := takeP CH 0 k u) (l := CH k) (j := j) (by rw [← HLE.out]; exact hlt) (fun i hi => by
                                have h7 := hno.out i hi
                                rw [List.getElem?_eq_getElem (by have := HLE.out; omega)] at h7
                                exact h7) (by rw [← HXE.out, HTK.out, hMM]; simp)
                              rw [h6, HXE.out]
                            have HGR := Lib.hid (greedy_hit hfind)
                            have hu2 := setU_lt hu hx8
                            clear hfind hMM
                            go_wp2_with (at_builtin; refine wpList_append_own _ rfl _ _ 26 rfl w5.heap.size 2 i0 (.int .i64 0) 1 8 Try.underlying26 hi hz0 hz1 hz2 rfl (by decide) _ _ _ rfl (PO.out.alloc _) ⟨_, 0, none⟩ 1 1 [.int .i64 (x : Int)] rfl rfl (cell_one_new _ _ _) (fun u hu => by simp at hu; subst hu; rfl) (by unfold maxLen; omega) (by omega) (by simp; omega) ?_; intro v9 w9 hown' hgrow _; have hb2 := Lib.hid (below_append HB6.out hb6 PO.out hgrow); have HOWN := Lib.hid hown'; clear hown' hgrow)
                            go_roundw
                            case rel => exact ⟨k + 1, 0, u ||| 1 <<< x, pl ++ [(x : Int)], by have := HKR.out; omega, by go_num, by rw [HM2.out], rfl, hu2, Lib.hid (by rw [List.length_append, List.map_append]; exact HOWN.out), Lib.hid (by rw [← hpg.out, HGR.out.1]; simp), Lib.hid (by simp [hpk.out]), hb2.out⟩
                            case measure => have := HKR.out; simp [intOf]; omega
                          · have hM3 : ((1 : Int) + (M2 : Int) == (M : Int)) = false := beq_eq_false_iff_ne.2 (by omega)
                            have HN2 := Lib.hid (HNX.out (by rw [HTK.out]; exact beq_eq_false_iff_ne.2 hMM))
                            go_wp2
                            go_roundw
                            case rel => exact ⟨j + 1, by omega, by go_num, rfl, rfl, rfl, HN2, z0⟩
                            case measure => simp [intOf]; omega
                        · have hand : bits BinOp.and IntKind.i64 ((u : Int) / 2 ^ x) 1 = 1 := and8 hu hx8 qb
                          have HN2 := Lib.hid (HNX.out (by unfold takeP; rw [qb]; rfl))
                          go_wp2_with fail
                          go_quiet (fail)
                          go_wp2
                          go_roundw
                          case rel => exact ⟨j + 1, by omega, by go_num, rfl, rfl, rfl, HN2, below_drewN hbi _⟩
                          case measure => simp [intOf]; omega
                      · obtain rfl : L = j := by omega
                        have hfind : (CH k).find? (takeP CH 0 k u) = none := find_no fun i hi => by
                          have h7 := hno.out i (by rw [HLE.out]; exact hi)
                          rw [List.getElem?_eq_getElem hi] at h7
                          exact h7
                        have HGR := Lib.hid (greedy_miss hfind)
                        have PO := Lib.hid (own_keep hpo.out hbi)
                        have HB6 := HB7
                        have hb6 := HB6.out.size
                        clear hfind
                        go_wp2_with (at_builtin; refine wpList_append_own _ rfl _ _ 26 rfl w5.heap.size 2 i0 (.int .i64 0) 1 8 Try.underlying26 hi hz0 hz1 hz2 rfl (by decide) _ _ _ rfl (PO.out.alloc _) ⟨_, 0, none⟩ 1 1 [.int .i64 (-1)] rfl rfl (cell_one_new _ _ _) (fun u hu => by simp at hu; subst hu; rfl) (by unfold maxLen; omega) (by omega) (by simp; omega) ?_; intro v9 w9 hown' hgrow _; have hb2 := Lib.hid (below_append HB6.out hb6 PO.out hgrow); have HOWN := Lib.hid hown'; clear hown' hgrow)
                        go_roundw
                        case rel => exact ⟨k + 1, 0, u, pl ++ [-1], by have := HKR.out; omega, by go_num, by rw [HM.out, HGR.out.2], rfl, hu, Lib.hid (by rw [List.length_append, List.map_append]; exact HOWN.out), Lib.hid (by rw [← hpg.out, HGR.out.1]; simp), Lib.hid (by simp [hpk.out]), hb2.out⟩
                        case measure => have := HKR.out; simp [intOf]; omega
                  · clear hkr
                    go_wp2
                    go_loopw [60, 16, 12, 11] (fun vj v16 v12 v11 wi => ∃ j : Nat, j ≤ L ∧ vj = .int .i64 j ∧ v16 = .int .i64 (-1) ∧ v12 = .int .i64 u ∧ v11 = .int .i64 M ∧ Hid (∀ i, i < j → takeP CH r k u (((CH k)[i]?).getD 0) = false) ∧ Below wo.heap.size wo wi) (fun vj _ _ _ _ => L - (intOf vj).toNat)
                    case atStart => exact ⟨0, by omega, rfl, rfl, rfl, rfl, Lib.hid fun i hi => absurd hi (Nat.not_lt_zero _), Below.refl _ _⟩
                    case round =>
                      obtain ⟨wi, hwi⟩ : ∃ wi, wi = wr := ⟨_, rfl⟩
                      subst hwi
                      obtain ⟨j, hj, rfl, rfl, rfl, rfl, hno, hbi⟩ := hrel
                      have HB7 := Lib.hid (hbo.trans (hbi.mono hbo.size))
                      by_cases hlt : j < L
                      · obtain ⟨x, hx⟩ : ∃ x, x = (CH k)[j]'(by rw [← HLE.out]; exact hlt) := ⟨_, rfl⟩
                        have hx8 : x < 8 := HMEM.out x (by rw [hx]; exact List.getElem_mem _)
                        obtain ⟨b0, o0, rfl, hrow⟩ := HROW.out (by omega)
                        have c1 : wi.cell? ⟨b0, o0 + j, none⟩ = some (.int .i64 x) := by
                          rw [hx, ← chP_at (by rw [← HLE.out]; exact hlt)]
                          exact (HB7.out.cell (p := ⟨b0, o0 + j, none⟩) (cell_lt (hrow j hlt))).trans (hrow j hlt)
                        have hgx : ((CH k)[j]?).getD 0 = x := by rw [hx, List.getElem?_eq_getElem (by rw [← HLE.out]; exact hlt)]; rfl
                        have HGX := Lib.hid hgx
                        have HXE := Lib.hid hx
                        have HR := Lib.hid hrow
                        clear hrow hx hgx
                        have hnext : takeP CH r k u x = false → ∀ i, i < j + 1 → takeP CH r k u (((CH k)[i]?).getD 0) = false := fun h i hi => by
                          rcases Nat.lt_or_ge i j with q | q
                          · exact hno.out i q
                          · obtain rfl : i = j := by omega
                            rw [HGX.out]; exact h
                        have HNX := Lib.hid hnext
                        clear hnext
                        cases qb : setU u x
                        · have hand : bits BinOp.and IntKind.i64 ((u : Int) / 2 ^ x) 1 = 0 := and8 hu hx8 qb
                          have hor := or8 hu hx8
                          have hw2 := pow8 hx8
                          have hml := most_le CH r (k + 1) (setU (u ||| 1 <<< x))
                          have htk : takeP CH r k u x = (1 + mostC CH r (k + 1) (setU (u ||| 1 <<< x)) == M) := by
                            unfold takeP
                            rw [qb, ← setU_upd, ← HM.out]; rfl
                          have HC := Lib.hid (show ∀ W, Below w5.heap.size w5 W → Calls Try.prog 47 #[.slice (some ⟨g, (k + 1), none⟩) r (cv - (k + 1)), .int .i64 ((u ||| 1 <<< x : Nat) : Int)] W (fun e w' => e = .returned (.int .i64 (mostC CH r (k + 1) (setU (u ||| 1 <<< x)) : Nat)) ∧ Below W.heap.size W w') from fun W hW => mostPlaced_calls CH H8.out HL8.out r (k + 1) g (k + 1) (cv - (k + 1)) (u ||| 1 <<< x) W (by
                              have h4 : ChAt w5 g (k + 1) r CH (k + 1) := fun i hi => by
                                have h5 := CAT.out (k + 1 + i) (by have := HKR.out; omega)
                                simp only [Nat.zero_add] at h5
                                first | exact absurd hi (Nat.not_lt_zero _) | exact h5
                              exact h4.keep hW) (by have := HKR.out; omega) (by have := HKR.out; omega) (by unfold maxLen; omega) (setU_lt hu hx8))
                          generalize hM2 : mostC CH r (k + 1) (setU (u ||| 1 <<< x)) = M2 at HC hml htk
                          have HM2 := Lib.hid hM2
                          have HTK := Lib.hid htk
                          have ew : IntKind.i64.wrap (1 + (M2 : Int)) = 1 + (M2 : Int) := IntWalk.i64_in _ ⟨by have := HKR.out; omega, by have := HKR.out; omega⟩
                          clear hM2 htk
                          go_wp2_with fail
                          refine wp_gen (fun W0 hW0 => ?_)
                          have s0_ : Below wo.heap.size wo W0 := by rw [hW0]; exact hbi
                          have s1_ : wo.heap.size ≤ W0.heap.size := by rw [hW0]; exact hbi.size
                          clear hW0
                          refine wp_region_held_drew (S := fun w' => Below wo.heap.size wo w' ∧ wo.heap.size ≤ w'.heap.size) (by kernel_rfl) ?_ (fun hHeld => ?_)
                          · exact ⟨s0_.drew, s1_⟩
                          clear s0_ s1_
                          refine take_yes (i := 0) (d := 64) (v := ?_) _ rfl rfl (by kernel_rfl) (by kernel_rfl) (by kernel_rfl) (fun _ _ _ _ h => h) (by rfl) ?_ (by assumption) ?_
                          rotate_left 1
                          · ((intro w hSw; (try dsimp only at hSw); go_simp) <;> (try with_reducible rfl))
                          (try simp only [Act.put, List.setIfInBounds_toArray, List.set_cons_zero, List.set_cons_succ])
                          refine take_yes (i := 1) (d := 65) (v := ?_) _ rfl rfl (by kernel_rfl) (by kernel_rfl) (by kernel_rfl) (fun _ _ _ _ h => h) (by rfl) ?_ (by assumption) ?_
                          rotate_left 1
                          · ((intro w hSw; (try dsimp only at hSw); go_simp) <;> (try with_reducible rfl))
                          (try simp only [Act.put, List.setIfInBounds_toArray, List.set_cons_zero, List.set_cons_succ])
                          refine take_yes (i := 2) (d := 66) (v := ?_) _ rfl rfl (by kernel_rfl) (by kernel_rfl) (by kernel_rfl) (fun _ _ _ _ h => h) (by rfl) ?_ (by assumption) ?_
                          rotate_left 1
                          · ((intro w hSw; (try dsimp only at hSw); go_simp) <;> (try with_reducible rfl))
                          (try simp only [Act.put, List.setIfInBounds_toArray, List.set_cons_zero, List.set_cons_succ])
                          refine take_yes (i := 3) (d := 67) (v := ?_) _ rfl rfl (by kernel_rfl) (by kernel_rfl) (by kernel_rfl) (fun _ _ _ _ h => h) (by rfl) ?_ (by assumption) ?_
                          rotate_left 1
                          · ((intro w hSw; (try dsimp only at hSw); go_simp) <;> (try with_reducible rfl))
                          (try simp only [Act.put, List.setIfInBounds_toArray, List.set_cons_zero, List.set_cons_succ])
                          refine take_yes (i := 4) (d := 68) (v := ?_) _ rfl rfl (by kernel_rfl) (by kernel_rfl) (by kernel_rfl) (fun _ _ _ _ h => h) (by rfl) ?_ (by assumption) ?_
                          rotate_left 1
                          · ((intro w hSw; (try dsimp only at hSw); go_simp) <;> (try with_reducible rfl))
                          (try simp only [Act.put, List.setIfInBounds_toArray, List.set_cons_zero, List.set_cons_succ])
                          refine take_yes (i := 5) (d := 69) (v := ?_) _ rfl rfl (by kernel_rfl) (by kernel_rfl) (by kernel_rfl) (fun _ _ _ _ h => h) (by rfl) ?_ (by assumption) ?_
                          rotate_left 1
                          · ((intro w hSw; (try dsimp only at hSw); go_simp) <;> (try with_reducible rfl))
                          (try simp only [Act.put, List.setIfInBounds_toArray, List.set_cons_zero, List.set_cons_succ])
                          refine take_yes (i := 6) (d := 70) (v := ?_) _ rfl rfl (by kernel_rfl) (by kernel_rfl) (by kernel_rfl) (fun _ _ _ _ h => h) (by rfl) ?_ (by assumption) ?_
                          rotate_left 1
                          · ((intro w hSw; (try dsimp only at hSw); go_simp) <;> (try with_reducible rfl))
                          (try simp only [Act.put, List.setIfInBounds_toArray, List.set_cons_zero, List.set_cons_succ])
                          refine take_yes (i := 7) (d := 71) (v := ?_) _ rfl rfl (by kernel_rfl) (by kernel_rfl) (by kernel_rfl) (fun _ _ _ _ h => h) (by rfl) ?_ (by assumption) ?_
                          rotate_left 1
                          · ((intro w hSw; (try dsimp only at hSw); go_simp) <;> (try with_reducible rfl))
                          (try simp only [Act.put, List.setIfInBounds_toArray, List.set_cons_zero, List.set_cons_succ])
                          refine take_yes (i := 8) (d := 72) (v := ?_) _ rfl rfl (by kernel_rfl) (by kernel_rfl) (by kernel_rfl) (fun _ _ _ _ h => h) (by rfl) ?_ (by assumption) ?_
                          rotate_left 1
                          · ((intro w hSw; (try dsimp only at hSw); go_simp) <;> (try with_reducible rfl))
                          (try simp only [Act.put, List.setIfInBounds_toArray, List.set_cons_zero, List.set_cons_succ])
                          refine take_yes (i := 9) (d := 73) (v := ?_) _ rfl rfl (by kernel_rfl) (by kernel_rfl) (by kernel_rfl) (fun _ _ _ _ h => h) (by rfl) ?_ (by assumption) ?_
                          rotate_left 1
                          · ((intro w hSw; (try dsimp only at hSw); go_simp) <;> (try with_reducible rfl))
                          (try simp only [Act.put, List.setIfInBounds_toArray, List.set_cons_zero, List.set_cons_succ])
                          refine take_yes (i := 10) (d := 74) (v := ?_) _ rfl rfl (by kernel_rfl) (by kernel_rfl) (by kernel_rfl) (fun _ _ _ _ h => h) (by rfl) ?_ (by assumption) ?_
                          rotate_left 1
                          · ((intro w hSw; (try dsimp only at hSw); go_simp) <;> (try with_reducible rfl))
                          (try simp only [Act.put, List.setIfInBounds_toArray, List.set_cons_zero, List.set_cons_succ])
                          refine take_yes (i := 11) (d := 75) (v := ?_) _ rfl rfl (by kernel_rfl) (by kernel_rfl) (by kernel_rfl) (fun _ _ _ _ h => h) (by rfl) ?_ (by assumption) ?_
                          rotate_left 1
                          · ((intro w hSw; (try dsimp only at hSw); go_simp) <;> (try with_reducible rfl))
                          (try simp only [Act.put, List.setIfInBounds_toArray, List.set_cons_zero, List.set_cons_succ])
                          refine take_yes (i := 12) (d := 76) (v := ?_) _ rfl rfl (by kernel_rfl) (by kernel_rfl) (by kernel_rfl) (fun _ _ _ _ h => h) (by rfl) ?_ (by assumption) ?_
                          rotate_left 1
                          · ((intro w hSw; (try dsimp only at hSw); go_simp) <;> (try with_reducible rfl))
                          (try simp only [Act.put, List.setIfInBounds_toArray, List.set_cons_zero, List.set_cons_succ])
                          refine take_yes (i := 13) (d := 77) (v := ?_) _ rfl rfl (by kernel_rfl) (by kernel_rfl) (by kernel_rfl) (fun _ _ _ _ h => h) (by rfl) ?_ (by assumption) ?_
                          rotate_left 1
                          · ((intro w hSw; (try dsimp only at hSw); go_simp) <;> (try with_reducible rfl))
                          (try simp only [Act.put, List.setIfInBounds_toArray, List.set_cons_zero, List.set_cons_succ])
                          refine take_yes (i := 16) (d := 80) (v := ?_) _ rfl rfl (by kernel_rfl) (by kernel_rfl) (by kernel_rfl) (fun _ _ _ _ h => h) (by rfl) ?_ (by assumption) ?_
                          rotate_left 1
                          · ((intro w hSw; (try dsimp only at hSw); go_simp) <;> (try with_reducible rfl))
                          (try simp only [Act.put, List.setIfInBounds_toArray, List.set_cons_zero, List.set_cons_succ])
                          (refine wpAnyH_ready (rs := [14]) (by kernel_rfl) (by simp) ?_; refine AllReadyH.cons rfl (fun K hK => ?_) AllReadyH.nil; go_simp; go_at_call 47; refine (HC.out _ (hbo.trans ((And.left hHeld).mono hbo.size))).mono ?_; rintro e wd ⟨rfl, hb⟩; refine hK.out _ _ (by obtain ⟨x0_, x1_⟩ := hHeld; exact ⟨x0_.trans (hb.mono x0_.size), Nat.le_trans x1_ hb.size⟩) (fun hHeld2 => ?_); clear hK K hHeld hb; have hHeld := hHeld2; clear hHeld2; (try simp only [Act.put, List.setIfInBounds_toArray, List.set_cons_zero, List.set_cons_succ]))
                          refine take_yes (i := 15) (d := 79) (v := ?_) _ rfl rfl (by kernel_rfl) (by kernel_rfl) (by kernel_rfl) (fun _ _ _ _ h => h) (by rfl) ?_ (by assumption) ?_
                          rotate_left 1
                          · ((intro w hSw; (try dsimp only at hSw); go_simp) <;> (try with_reducible rfl))
                          (try simp only [Act.put, List.setIfInBounds_toArray, List.set_cons_zero, List.set_cons_succ])
                          refine take_yes (i := 17) (d := 81) (v := ?_) _ rfl rfl (by kernel_rfl) (by kernel_rfl) (by kernel_rfl) (fun _ _ _ _ h => h) (by rfl) ?_ (by assumption) ?_
                          rotate_left 1
                          · ((intro w hSw; (try dsimp only at hSw); go_simp) <;> (try with_reducible rfl))
                          (try simp only [Act.put, List.setIfInBounds_toArray, List.set_cons_zero, List.set_cons_succ])
                          refine take_yes (i := 18) (d := 82) (v := ?_) _ rfl rfl (by kernel_rfl) (by kernel_rfl) (by kernel_rfl) (fun _ _ _ _ h => h) (by rfl) ?_ (by assumption) ?_
                          rotate_left 1
                          · ((intro w hSw; (try dsimp only at hSw); go_simp) <;> (try with_reducible rfl))
                          (try simp only [Act.put, List.setIfInBounds_toArray, List.set_cons_zero, List.set_cons_succ])
                          refine wpAnyH_done (by kernel_rfl) ?_ _
                          obtain ⟨z0, z1⟩ := hHeld
                          have PO := Lib.hid (own_keep hpo.out z0)
                          have HB6 := Lib.hid (hbo.trans (z0.mono hbo.size))
                          have hb6 := HB6.out.size
                          by_cases hMM : 1 + M2 = M
                          · have hM3 : ((1 : Int) + (M2 : Int) == (M : Int)) = true := by rw [← hMM]; simp
                            have e9 : IntKind.i64.wrap ((M : Int) - 1) = (M2 : Int) := by rw [show (M : Int) - 1 = (M2 : Int) by omega]; exact IntWalk.i64_in _ ⟨by have := HKR.out; omega, by have := HKR.out; omega⟩
                            have hfind : (CH k).find? (takeP CH r k u) = some x := by
                              have h6 := find_take (p := takeP CH r k u) (l := CH k) (j := j) (by rw [← HLE.out]; exact hlt) (fun i hi => by
                                have h7 := hno.out i hi
                                rw [List.getElem?_eq_getElem (by have := HLE.out; omega)] at h7
                                exact h7) (by rw [← HXE.out, HTK.out, hMM]; simp)
                              rw [h6, HXE.out]
                            have HGR := Lib.hid (greedy_hit hfind)
                            have hu2 := setU_lt hu hx8
                            clear hfind hMM
                            go_wp2_with (at_builtin; refine wpList_append_own _ rfl _ _ 26 rfl w5.heap.size 2 i0 (.int .i64 0) 1 8 Try.underlying26 hi hz0 hz1 hz2 rfl (by decide) _ _ _ rfl (PO.out.alloc _) ⟨_, 0, none⟩ 1 1 [.int .i64 (x : Int)] rfl rfl (cell_one_new _ _ _) (fun u hu => by simp at hu; subst hu; rfl) (by unfold maxLen; omega) (by omega) (by simp; omega) ?_; intro v9 w9 hown' hgrow _; have hb2 := Lib.hid (below_append HB6.out hb6 PO.out hgrow); have HOWN := Lib.hid hown'; clear hown' hgrow)
                            go_roundw
                            case rel => exact ⟨k + 1, r, u ||| 1 <<< x, pl ++ [(x : Int)], by have := HKR.out; omega, by go_num, by rw [HM2.out], rfl, hu2, Lib.hid (by rw [List.length_append, List.map_append]; exact HOWN.out), Lib.hid (by rw [← hpg.out, HGR.out.1]; simp), Lib.hid (by simp [hpk.out]), hb2.out⟩
                            case measure => have := HKR.out; simp [intOf]; omega
                          · have hM3 : ((1 : Int) + (M2 : Int) == (M : Int)) = false := beq_eq_false_iff_ne.2 (by omega)
                            have HN2 := Lib.hid (HNX.out (by rw [HTK.out]; exact beq_eq_false_iff_ne.2 hMM))
                            go_wp2
                            go_roundw
                            case rel => exact ⟨j + 1, by omega, by go_num, rfl, rfl, rfl, HN2, z0⟩
                            case measure => simp [intOf]; omega
                        · have hand : bits BinOp.and IntKind.i64 ((u : Int) / 2 ^ x) 1 = 1 := and8 hu hx8 qb
                          have HN2 := Lib.hid (HNX.out (by unfold takeP; rw [qb]; rfl))
                          go_wp2_with fail
                          go_quiet (fail)
                          go_wp2
                          go_roundw
                          case rel => exact ⟨j + 1, by omega, by go_num, rfl, rfl, rfl, HN2, below_drewN hbi _⟩
                          case measure => simp [intOf]; omega
                      · obtain rfl : L = j := by omega
                        have hfind : (CH k).find? (takeP CH r k u) = none := find_no fun i hi => by
                          have h7 := hno.out i (by rw [HLE.out]; exact hi)
                          rw [List.getElem?_eq_getElem hi] at h7
                          exact h7
                        have HGR := Lib.hid (greedy_miss hfind)
                        have PO := Lib.hid (own_keep hpo.out hbi)
                        have HB6 := HB7
                        have hb6 := HB6.out.size
                        clear hfind
                        go_wp2_with (at_builtin; refine wpList_append_own _ rfl _ _ 26 rfl w5.heap.size 2 i0 (.int .i64 0) 1 8 Try.underlying26 hi hz0 hz1 hz2 rfl (by decide) _ _ _ rfl (PO.out.alloc _) ⟨_, 0, none⟩ 1 1 [.int .i64 (-1)] rfl rfl (cell_one_new _ _ _) (fun u hu => by simp at hu; subst hu; rfl) (by unfold maxLen; omega) (by omega) (by simp; omega) ?_; intro v9 w9 hown' hgrow _; have hb2 := Lib.hid (below_append HB6.out hb6 PO.out hgrow); have HOWN := Lib.hid hown'; clear hown' hgrow)
                        go_roundw
                        case rel => exact ⟨k + 1, r, u, pl ++ [-1], by have := HKR.out; omega, by go_num, by rw [HM.out, HGR.out.2], rfl, hu, Lib.hid (by rw [List.length_append, List.map_append]; exact HOWN.out), Lib.hid (by rw [← hpg.out, HGR.out.1]; simp), Lib.hid (by simp [hpk.out]), hb2.out⟩
                        case measure => have := HKR.out; simp [intOf]; omega
end Go.Proofs.Ytonoeohmpaegdaa
