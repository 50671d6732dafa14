/- LeftIn, in the program and in the reference. -/
import Derived.Test.YticnpibkpfpojaaGreatDoorLeft
import Derived.Deep.RegionHeld3
namespace Go.Proofs.YticnpibkpfpojaaGreatDoor
set_option linter.unusedVariables false
open Go.RowKit

theorem fno_hit2 {ok : Nat → Bool} : ∀ {n : Nat}, allB ok n = false → ∃ k, k < n ∧ fno ok n = (k : Int) ∧ ok k = false
  | 0, h => by cases h
  | n + 1, h => by
    cases q : allB ok n
    · obtain ⟨k, h1, h2, h3⟩ := fno_hit2 q
      refine ⟨k, by omega, ?_, h3⟩
      unfold fno
      rw [if_neg (by rw [q]; simp)]
      exact h2
    · have h2 : ok n = false := by simpa [allB, q] using h
      exact ⟨n, by omega, fno_hit (by omega) q h2, h2⟩
/-- the place of the first melt with an id -/
def mIx (ids : Nat → ByteArray) (m : Nat) (x : ByteArray) : Nat := (fno (fun q => !eqS (ids q) x) m).toNat
theorem mIx_of {ids : Nat → ByteArray} {m : Nat} {x : ByteArray} (h : hasId ids m x = true) : mIx ids m x < m ∧ fno (fun q => !eqS (ids q) x) m = (mIx ids m x : Int) ∧ eqS (ids (mIx ids m x)) x = true := by
  have h1 : allB (fun q => !eqS (ids q) x) m = false := by unfold hasId anyB at h; simpa using h
  obtain ⟨k, h2, h3, h4⟩ := fno_hit2 h1
  have e : mIx ids m x = k := by unfold mIx; rw [h3]; simp
  rw [e]
  exact ⟨h2, h3, by simpa using h4⟩
noncomputable def lfC (g : Nat → MeltV) (m : Nat) (f : Nat → BellV) (n : Nat) (x : ByteArray) : Int :=
  if (okMelts g m && okBells f n) = true then (if (hasId (fun q => (g q).id) m x && allKnown (fun q => (g q).id) m f n) = true then (if (g (mIx (fun q => (g q).id) m x)).ma - tkB f x n < 0 then 6 else 0) else 3) else 1
noncomputable def lfV (g : Nat → MeltV) (m : Nat) (f : Nat → BellV) (n : Nat) (x : ByteArray) : Int := if lfC g m f n x = 0 then (g (mIx (fun q => (g q).id) m x)).ma - tkB f x n else 0
theorem okM_ma {g : Nat → MeltV} {m i : Nat} (h : okMelts g m = true) (hi : i < m) : 0 ≤ (g i).ma ∧ (g i).ma ≤ 320000000 := by
  unfold okMelts meltsOk at h
  simp only [Bool.and_eq_true] at h
  have h2 := allB_of h.1 i hi
  unfold meltAt' goodAt meltV at h2
  simp only [Bool.and_eq_true] at h2
  have := inB_iff.1 h2.1.1.2.2.2.2
  omega
theorem okM_srt {g : Nat → MeltV} {m : Nat} (h : okMelts g m = true) : Srt (fun q => (g q).id) m := by
  unfold okMelts at h
  simp only [Bool.and_eq_true] at h
  exact meltsOk_srt h.1
theorem tkB_congr (f : Nat → BellV) {a b : ByteArray} (h : ∀ y i, tkS y a i = tkS y b i) : ∀ n, tkB f a n = tkB f b n
  | 0 => rfl
  | n + 1 => by
    show tkB f a n + tkS (f n) a (f n).n = tkB f b n + tkS (f n) b (f n).n
    rw [tkB_congr f h n, h]
set_option maxRecDepth 20000 in
set_option maxHeartbeats 8000000 in
theorem LeftIn_calls (B : Option Addr) (m d : Nat) (g : Nat → MeltV) (A : Option Addr) (n c : Nat) (f : Nat → BellV) (x : ByteArray) (w : World) (h2 : MeltRow w B m g) (hm : m ≤ 1048576) (hd : m ≤ d) (hg : ∀ i, i < m → FineM (g i)) (h : BellRow w A n f) (hn : n ≤ 1048576) (hf : ∀ i, i < n → Fine (f i)) :
    Calls Tryz.prog 11 #[.slice B m d, .slice A n c, .string x] w fun e w' => e = .returned (.tuple #[.int .i64 (lfV g m f n x), .int .i64 (lfC g m f n x)]) ∧ Below w.heap.size w w' := by
  have HN := Lib.hid (meltNamed_calls B m d g x w h2 hm)
  have H := Lib.hid h
  have HM := Lib.hid h2
  have HF := Lib.hid hf
  have HG := Lib.hid hg
  have HFN := Lib.hid (show ∀ i, i < n → (f i).n ≤ 1048576 from fun i hi => (hf i hi).2.2)
  have hn2 : n ≤ maxLen := by unfold maxLen; omega
  clear h h2 hg hf
  cases q1 : okMelts g m
  · have e1 : lfC g m f n x = 1 := by simp [lfC, q1]
    rw [show lfV g m f n x = 0 by simp [lfV, e1], e1]
    go_enter Tryz.func11, Tryz.ntmps11
    go_wp2_with fail
    go_at_call 37
    with_reducible refine HN.out.mono ?_
    rintro e w1 ⟨hno, hb⟩
    rcases hno with ⟨k, AK, CK, hk, heq, hsrt, rfl, hrowk⟩ | ⟨hsrt, rfl⟩
    · have KK := Lib.hid (hb.alloc hb.size (.cells #[.string (g k).id, .slice AK (g k).n CK, .int .i64 (g k).ma] 74))
      clear hsrt hrowk hb heq
      go_wp2_with (first | (go_at_call 20; refine (ValidMelts_calls B m d g _ (HM.out.keep KK.out) HG.out hm hd).mono ?_; rw [q1]; rintro e w2 ⟨rfl, hb⟩; have K2 := Lib.hid (KK.out.trans (hb.mono KK.out.size)); (try replace HXX := Lib.hid (HXX.out.keep hb)); clear KK hb; have KK := K2; clear K2) | (go_at_call 21; refine (ValidBells_calls A n c f _ (H.out.keep KK.out) HF.out hn2).mono ?_; rw [show (bellsOk f n && decide ((n : Int) ≤ 24)) = _ from q2]; rintro e w3 ⟨rfl, hb⟩; have K2 := Lib.hid (KK.out.trans (hb.mono KK.out.size)); (try replace HXX := Lib.hid (HXX.out.keep hb)); clear KK hb; have KK := K2; clear K2))
      refine bodyPost_ret (v := .tuple #[.int .i64 0, .int .i64 1]) (by simp [results, Tryz.results11, go_sem]) rfl ?_
      exact ⟨rfl, KK.out⟩
    · have KK := Lib.hid (hb.alloc hb.size (.cells #[.string ⟨#[]⟩, .slice none 0 0, .int .i64 0] 74))
      clear hsrt hb
      go_wp2_with (first | (go_at_call 20; refine (ValidMelts_calls B m d g _ (HM.out.keep KK.out) HG.out hm hd).mono ?_; rw [q1]; rintro e w2 ⟨rfl, hb⟩; have K2 := Lib.hid (KK.out.trans (hb.mono KK.out.size)); (try replace HXX := Lib.hid (HXX.out.keep hb)); clear KK hb; have KK := K2; clear K2) | (go_at_call 21; refine (ValidBells_calls A n c f _ (H.out.keep KK.out) HF.out hn2).mono ?_; rw [show (bellsOk f n && decide ((n : Int) ≤ 24)) = _ from q2]; rintro e w3 ⟨rfl, hb⟩; have K2 := Lib.hid (KK.out.trans (hb.mono KK.out.size)); (try replace HXX := Lib.hid (HXX.out.keep hb)); clear KK hb; have KK := K2; clear K2))
      refine bodyPost_ret (v := .tuple #[.int .i64 0, .int .i64 1]) (by simp [results, Tryz.results11, go_sem]) rfl ?_
      exact ⟨rfl, KK.out⟩
  · cases q2 : okBells f n
    · have e1 : lfC g m f n x = 1 := by simp [lfC, q2]
      rw [show lfV g m f n x = 0 by simp [lfV, e1], e1]
      go_enter Tryz.func11, Tryz.ntmps11
      go_wp2_with fail
      go_at_call 37
      with_reducible refine HN.out.mono ?_
      rintro e w1 ⟨hno, hb⟩
      rcases hno with ⟨k, AK, CK, hk, heq, hsrt, rfl, hrowk⟩ | ⟨hsrt, rfl⟩
      · have KK := Lib.hid (hb.alloc hb.size (.cells #[.string (g k).id, .slice AK (g k).n CK, .int .i64 (g k).ma] 74))
        clear hsrt hrowk hb heq
        go_wp2_with (first | (go_at_call 20; refine (ValidMelts_calls B m d g _ (HM.out.keep KK.out) HG.out hm hd).mono ?_; rw [q1]; rintro e w2 ⟨rfl, hb⟩; have K2 := Lib.hid (KK.out.trans (hb.mono KK.out.size)); (try replace HXX := Lib.hid (HXX.out.keep hb)); clear KK hb; have KK := K2; clear K2) | (go_at_call 21; refine (ValidBells_calls A n c f _ (H.out.keep KK.out) HF.out hn2).mono ?_; rw [show (bellsOk f n && decide ((n : Int) ≤ 24)) = _ from q2]; rintro e w3 ⟨rfl, hb⟩; have K2 := Lib.hid (KK.out.trans (hb.mono KK.out.size)); (try replace HXX := Lib.hid (HXX.out.keep hb)); clear KK hb; have KK := K2; clear K2))
        refine bodyPost_ret (v := .tuple #[.int .i64 0, .int .i64 1]) (by simp [results, Tryz.results11, go_sem]) rfl ?_
        exact ⟨rfl, KK.out⟩
      · have KK := Lib.hid (hb.alloc hb.size (.cells #[.string ⟨#[]⟩, .slice none 0 0, .int .i64 0] 74))
        clear hsrt hb
        go_wp2_with (first | (go_at_call 20; refine (ValidMelts_calls B m d g _ (HM.out.keep KK.out) HG.out hm hd).mono ?_; rw [q1]; rintro e w2 ⟨rfl, hb⟩; have K2 := Lib.hid (KK.out.trans (hb.mono KK.out.size)); (try replace HXX := Lib.hid (HXX.out.keep hb)); clear KK hb; have KK := K2; clear K2) | (go_at_call 21; refine (ValidBells_calls A n c f _ (H.out.keep KK.out) HF.out hn2).mono ?_; rw [show (bellsOk f n && decide ((n : Int) ≤ 24)) = _ from q2]; rintro e w3 ⟨rfl, hb⟩; have K2 := Lib.hid (KK.out.trans (hb.mono KK.out.size)); (try replace HXX := Lib.hid (HXX.out.keep hb)); clear KK hb; have KK := K2; clear K2))
        refine bodyPost_ret (v := .tuple #[.int .i64 0, .int .i64 1]) (by simp [results, Tryz.results11, go_sem]) rfl ?_
        exact ⟨rfl, KK.out⟩
    · have HS := Lib.hid (okM_srt q1)
      cases q4 : hasId (fun q => (g q).id) m x
      · have e1 : lfC g m f n x = 3 := by simp [lfC, q1, q2, q4]
        rw [show lfV g m f n x = 0 by simp [lfV, e1], e1]
        go_enter Tryz.func11, Tryz.ntmps11
        go_wp2_with fail
        go_at_call 37
        with_reducible refine HN.out.mono ?_
        rintro e w1 ⟨hno, hb⟩
        rcases hno with ⟨k, AK, CK, hk, heq, hsrt, rfl, hrowk⟩ | ⟨hsrt, rfl⟩
        · exfalso
          have := hsrt HS.out
          rw [q4] at this; cases this
        · have KK := Lib.hid (hb.alloc hb.size (.cells #[.string ⟨#[]⟩, .slice none 0 0, .int .i64 0] 74))
          clear hsrt hb
          go_wp2_with (first | (go_at_call 20; refine (ValidMelts_calls B m d g _ (HM.out.keep KK.out) HG.out hm hd).mono ?_; rw [q1]; rintro e w2 ⟨rfl, hb⟩; have K2 := Lib.hid (KK.out.trans (hb.mono KK.out.size)); (try replace HXX := Lib.hid (HXX.out.keep hb)); clear KK hb; have KK := K2; clear K2) | (go_at_call 21; refine (ValidBells_calls A n c f _ (H.out.keep KK.out) HF.out hn2).mono ?_; rw [show (bellsOk f n && decide ((n : Int) ≤ 24)) = _ from q2]; rintro e w3 ⟨rfl, hb⟩; have K2 := Lib.hid (KK.out.trans (hb.mono KK.out.size)); (try replace HXX := Lib.hid (HXX.out.keep hb)); clear KK hb; have KK := K2; clear K2))
          refine bodyPost_ret (v := .tuple #[.int .i64 0, .int .i64 3]) (by simp [results, Tryz.results11, go_sem]) rfl ?_
          exact ⟨rfl, KK.out⟩
      · cases q3 : allKnown (fun q => (g q).id) m f n
        · have e1 : lfC g m f n x = 3 := by simp [lfC, q1, q2, q3]
          rw [show lfV g m f n x = 0 by simp [lfV, e1], e1]
          go_enter Tryz.func11, Tryz.ntmps11
          go_wp2_with fail
          go_at_call 37
          with_reducible refine HN.out.mono ?_
          rintro e w1 ⟨hno, hb⟩
          rcases hno with ⟨k, AK, CK, hk, heq, hsrt, rfl, hrowk⟩ | ⟨hsrt, rfl⟩
          · have KK := Lib.hid (hb.alloc hb.size (.cells #[.string (g k).id, .slice AK (g k).n CK, .int .i64 (g k).ma] 74))
            have HXX := Lib.hid (Blk.new w1 74 #[.string (g k).id, .slice AK (g k).n CK, .int .i64 (g k).ma])
            clear hsrt hrowk hb heq
            go_wp2_with (first | (go_at_call 20; refine (ValidMelts_calls B m d g _ (HM.out.keep KK.out) HG.out hm hd).mono ?_; rw [q1]; rintro e w2 ⟨rfl, hb⟩; have K2 := Lib.hid (KK.out.trans (hb.mono KK.out.size)); (try replace HXX := Lib.hid (HXX.out.keep hb)); clear KK hb; have KK := K2; clear K2) | (go_at_call 21; refine (ValidBells_calls A n c f _ (H.out.keep KK.out) HF.out hn2).mono ?_; rw [show (bellsOk f n && decide ((n : Int) ≤ 24)) = _ from q2]; rintro e w3 ⟨rfl, hb⟩; have K2 := Lib.hid (KK.out.trans (hb.mono KK.out.size)); (try replace HXX := Lib.hid (HXX.out.keep hb)); clear KK hb; have KK := K2; clear K2) | (go_at_call 23; refine (haveMelts_calls B m d g A n c f _ (HM.out.keep KK.out) hm HS.out (H.out.keep KK.out) hn HFN.out).mono ?_; rw [q3]; rintro e w4 ⟨rfl, hb⟩; have K2 := Lib.hid (KK.out.trans (hb.mono KK.out.size)); have G2 := HXX.out.keep hb; have y0 := (G2.cell 0).trans rfl; have y1 := (G2.cell 1).trans rfl; have y2 := (G2.cell 2).trans rfl; replace HXX := Lib.hid G2; clear KK hb G2; have KK := K2; clear K2))
            refine bodyPost_ret (v := .tuple #[.int .i64 0, .int .i64 3]) (by simp [results, Tryz.results11, go_sem]) rfl ?_
            exact ⟨rfl, KK.out⟩
          · exfalso
            have := hsrt HS.out
            rw [q4] at this; cases this
        · obtain ⟨i1, i2, i3⟩ := mIx_of q4
          have hfew := okB_few q2
          have hbd := tkB_bd (id := x) hfew n (Nat.le_refl _)
          have hn100 := hfew.1
          obtain ⟨T, hT⟩ : ∃ T, T = tkB f x n := ⟨_, rfl⟩
          rw [← hT] at hbd
          obtain ⟨RC, hRC⟩ : ∃ RC, RC = lfC g m f n x := ⟨_, rfl⟩
          obtain ⟨RV, hRV⟩ : ∃ RV, RV = lfV g m f n x := ⟨_, rfl⟩
          rw [← hRC, ← hRV]
          go_enter Tryz.func11, Tryz.ntmps11
          go_wp2_with fail
          go_at_call 37
          with_reducible refine HN.out.mono ?_
          rintro e w1 ⟨hno, hb⟩
          rcases hno with ⟨k, AK, CK, hk, heq, hsrt, rfl, hrowk⟩ | ⟨hsrt, rfl⟩
          · have hkix : k = mIx (fun q => (g q).id) m x := srt_uniq HS.out hk i1 heq i3
            have hma := okM_ma q1 hk
            have HMA := Lib.hid hma
            have HFEW := Lib.hid hfew
            have heqT : tkB f (g k).id n = T := by
              rw [hT]
              have e := eq_of_beq heq
              have heq2 : ∀ z : ByteArray, eqS z (g k).id = eqS z x := fun z => by unfold eqS; rw [e]
              have hs : ∀ y i, tkS y (g k).id i = tkS y x i := by
                intro y i
                induction i with
                | zero => rfl
                | succ i ih => simp only [tkS, ih, heq2]
              exact tkB_congr f hs n
            have KK := Lib.hid (hb.alloc hb.size (.cells #[.string (g k).id, .slice AK (g k).n CK, .int .i64 (g k).ma] 74))
            have HXX := Lib.hid (Blk.new w1 74 #[.string (g k).id, .slice AK (g k).n CK, .int .i64 (g k).ma])
            have e0 : lfC g m f n x = if (g k).ma - T < 0 then 6 else 0 := by simp [lfC, q1, q2, q3, q4, ← hkix, ← hT]
            have e00 : lfV g m f n x = if (g k).ma - T < 0 then 0 else (g k).ma - T := by
              unfold lfV
              rw [e0, ← hkix, ← hT]
              by_cases h9 : (g k).ma - T < 0 <;> simp [h9]
            rw [e0] at hRC
            rw [e00] at hRV
            have HRC := Lib.hid hRC
            have HRV := Lib.hid hRV
            clear hsrt hrowk hb heq i1 i2 i3 hkix hT hRC hRV e0 e00
            by_cases h9 : (g k).ma - T < 0
            · go_wp2_with (first | (go_at_call 20; refine (ValidMelts_calls B m d g _ (HM.out.keep KK.out) HG.out hm hd).mono ?_; rw [q1]; rintro e w2 ⟨rfl, hb⟩; have K2 := Lib.hid (KK.out.trans (hb.mono KK.out.size)); (try replace HXX := Lib.hid (HXX.out.keep hb)); clear KK hb; have KK := K2; clear K2) | (go_at_call 21; refine (ValidBells_calls A n c f _ (H.out.keep KK.out) HF.out hn2).mono ?_; rw [show (bellsOk f n && decide ((n : Int) ≤ 24)) = _ from q2]; rintro e w3 ⟨rfl, hb⟩; have K2 := Lib.hid (KK.out.trans (hb.mono KK.out.size)); (try replace HXX := Lib.hid (HXX.out.keep hb)); clear KK hb; have KK := K2; clear K2) | (go_at_call 23; refine (haveMelts_calls B m d g A n c f _ (HM.out.keep KK.out) hm HS.out (H.out.keep KK.out) hn HFN.out).mono ?_; rw [q3]; rintro e w4 ⟨rfl, hb⟩; have K2 := Lib.hid (KK.out.trans (hb.mono KK.out.size)); have G2 := HXX.out.keep hb; have y0 := (G2.cell 0).trans rfl; have y1 := (G2.cell 1).trans rfl; have y2 := (G2.cell 2).trans rfl; replace HXX := Lib.hid G2; clear KK hb G2; have KK := K2; clear K2) | (go_at_call 38; refine (leftIn_calls A n c f _ _ _ _ _ _ (H.out.keep KK.out) HFEW.out HMA.out).mono ?_; rw [heqT]; rintro e w5 ⟨rfl, hb⟩; have K2 := Lib.hid (KK.out.trans (hb.mono KK.out.size)); have G2 := HXX.out.keep hb; (try clear y0 y1 y2); have y0 := (G2.cell 0).trans rfl; have y1 := (G2.cell 1).trans rfl; have y2 := (G2.cell 2).trans rfl; replace HXX := Lib.hid G2; clear KK hb G2; have KK := K2; clear K2))
              refine bodyPost_ret (v := .tuple #[.int .i64 0, .int .i64 6]) (by simp [results, Tryz.results11, go_sem]) rfl ?_
              exact ⟨by rw [HRC.out, HRV.out, if_pos h9, if_pos h9], KK.out⟩
            · go_wp2_with (first | (go_at_call 20; refine (ValidMelts_calls B m d g _ (HM.out.keep KK.out) HG.out hm hd).mono ?_; rw [q1]; rintro e w2 ⟨rfl, hb⟩; have K2 := Lib.hid (KK.out.trans (hb.mono KK.out.size)); (try replace HXX := Lib.hid (HXX.out.keep hb)); clear KK hb; have KK := K2; clear K2) | (go_at_call 21; refine (ValidBells_calls A n c f _ (H.out.keep KK.out) HF.out hn2).mono ?_; rw [show (bellsOk f n && decide ((n : Int) ≤ 24)) = _ from q2]; rintro e w3 ⟨rfl, hb⟩; have K2 := Lib.hid (KK.out.trans (hb.mono KK.out.size)); (try replace HXX := Lib.hid (HXX.out.keep hb)); clear KK hb; have KK := K2; clear K2) | (go_at_call 23; refine (haveMelts_calls B m d g A n c f _ (HM.out.keep KK.out) hm HS.out (H.out.keep KK.out) hn HFN.out).mono ?_; rw [q3]; rintro e w4 ⟨rfl, hb⟩; have K2 := Lib.hid (KK.out.trans (hb.mono KK.out.size)); have G2 := HXX.out.keep hb; have y0 := (G2.cell 0).trans rfl; have y1 := (G2.cell 1).trans rfl; have y2 := (G2.cell 2).trans rfl; replace HXX := Lib.hid G2; clear KK hb G2; have KK := K2; clear K2) | (go_at_call 38; refine (leftIn_calls A n c f _ _ _ _ _ _ (H.out.keep KK.out) HFEW.out HMA.out).mono ?_; rw [heqT]; rintro e w5 ⟨rfl, hb⟩; have K2 := Lib.hid (KK.out.trans (hb.mono KK.out.size)); have G2 := HXX.out.keep hb; (try clear y0 y1 y2); have y0 := (G2.cell 0).trans rfl; have y1 := (G2.cell 1).trans rfl; have y2 := (G2.cell 2).trans rfl; replace HXX := Lib.hid G2; clear KK hb G2; have KK := K2; clear K2))
              refine bodyPost_ret (v := .tuple #[.int .i64 ((g k).ma - T), .int .i64 0]) (by simp [results, Tryz.results11, go_sem]) rfl ?_
              exact ⟨by rw [HRC.out, HRV.out, if_neg (by omega), if_neg (by omega)], KK.out⟩
          · exfalso
            have := hsrt HS.out
            rw [q4] at this; cases this
end Go.Proofs.YticnpibkpfpojaaGreatDoor
