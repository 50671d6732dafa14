/- The alloy of a bell, in the reference. -/
import Derived.Test.YtkilfapknemjhaaAlloyB
namespace Go.Proofs.Ytkilfapknemjhaa
set_option linter.unusedVariables false
set_option linter.unusedSimpArgs false
open Go.RowKit

theorem cell_arA {W : World} {a : Addr} {v : Value} (h : W.cell? a = some v) (o : Obj) : (W.alloc o).cell? a = some v := (Go.World.cell?_alloc_some _ _ _ (by rw [h]; rfl)).trans h
theorem okM_V {g : Nat → MeltV} {m i : Nat} (h : okMelts g m = true) (hi : i < m) : meltV (g i) = true := by
  unfold okMelts meltsOk at h
  simp only [Bool.and_eq_true] at h
  have h1 := allB_of h.1 i hi
  unfold meltAt' goodAt at h1
  simp only [Bool.and_eq_true] at h1
  exact h1.1.1
set_option maxRecDepth 20000 in
set_option maxHeartbeats 8000000 in
theorem sAlloyOfBell_calls (A : Option Addr) (n c : Nat) (s0 : Nat → ByteArray) (a1 a2 a3 a4 : Nat → Int) (B : Option Addr) (m d : Nat) (g : Nat → MeltV) (s : ByteArray) (no ma fe : Int) (C : Option Addr) (p e2 : Nat) (ss : Nat → ByteArray) (ms : Nat → Int) (w : World) (h : IngotRow w A n s0 a1 a2 a3 a4) (hsz : ∀ i, i < n → (s0 i).size ≤ maxLen) (hn : n ≤ 1048576) (h2 : MeltRow w B m g) (hm : m ≤ 1048576) (hg : ∀ i, i < m → FineM (g i)) (hs : s.size ≤ maxLen) (h3 : ShareRow w C p ss ms) (hss : ∀ i, i < p → (ss i).size ≤ maxLen) (hp : p ≤ 1048576) :
    Calls Try.prog 36 #[.slice A n c, .slice B m d, .agg #[.string s, .int .i64 no, .int .i64 ma, .int .i64 fe, .slice C p e2]] w fun e w' => e = .returned (.tuple #[.agg #[.int .i64 (abF s0 a1 a2 a3 a4 n g m (⟨s, no, ma, fe, p, ss, ms⟩ : BellV) 0), .int .i64 (abF s0 a1 a2 a3 a4 n g m (⟨s, no, ma, fe, p, ss, ms⟩ : BellV) 1), .int .i64 (abF s0 a1 a2 a3 a4 n g m (⟨s, no, ma, fe, p, ss, ms⟩ : BellV) 2)], .int .i64 (abC s0 a1 a2 a3 a4 n g m (⟨s, no, ma, fe, p, ss, ms⟩ : BellV))]) ∧ Below w.heap.size w w' := by
  have hn2 : n ≤ maxLen := by unfold maxLen; omega
  have hal := ((Below.refl w.heap.size w).alloc (Nat.le_refl _) (.cells #[.string s, .int .i64 no, .int .i64 ma, .int .i64 fe, .slice C p e2] 76)).alloc (by simp) (.cells #[.int .i64 0, .int .i64 0, .int .i64 0] 67)
  have HX := Lib.hid ((Blk.new w 76 #[.string s, .int .i64 no, .int .i64 ma, .int .i64 fe, .slice C p e2]).alloc (.cells #[.int .i64 0, .int .i64 0, .int .i64 0] 67))
  have HY := Lib.hid (Blk.new2 w (.cells #[.string s, .int .i64 no, .int .i64 ma, .int .i64 fe, .slice C p e2] 76) 67 #[.int .i64 0, .int .i64 0, .int .i64 0])
  have H := Lib.hid h
  have HZ := Lib.hid hsz
  have HM := Lib.hid h2
  have HG := Lib.hid hg
  have HSH := Lib.hid h3
  have HSS := Lib.hid hss
  have HAL := Lib.hid hal
  have HC1 := Lib.hid (spec_l13Ok_calls A n c s0 a1 a2 a3 a4 _ (h.below hal (Nat.le_refl _)) hsz hn2)
  obtain ⟨o1, q1⟩ : ∃ o, okIngs s0 a1 a2 a3 a4 n = o := ⟨_, rfl⟩
  obtain ⟨o2, q2⟩ : ∃ o, okMelts g m = o := ⟨_, rfl⟩
  obtain ⟨o3, q3⟩ : ∃ o, bellV (⟨s, no, ma, fe, p, ss, ms⟩ : BellV) = o := ⟨_, rfl⟩
  obtain ⟨o4, q4⟩ : ∃ o, knownB (fun q => (g q).id) m (⟨s, no, ma, fe, p, ss, ms⟩ : BellV) = o := ⟨_, rfl⟩
  rw [show (allB (goodAt (fun i => ingB (s0 i) (a1 i) (a2 i) (a3 i) (a4 i)) s0) n && decide ((n : Int) ≤ 16)) = o1 from q1] at HC1
  have HC2 := Lib.hid (fun (W : World) (hb : Below w.heap.size w W) => l14Ok_calls B m d g W (h2.keep hb) hg hm)
  have HC3 := Lib.hid (fun (W : World) (hb : Below w.heap.size w W) (hx : Blk W w.heap.size 76 #[.string s, .int .i64 no, .int .i64 ma, .int .i64 fe, .slice C p e2]) => sbell_calls w.heap.size 0 s no ma fe C p e2 ss ms W hs (ShareRow.keep h3 hb) hss hp ((hx.cell 0).trans rfl) ((hx.cell 1).trans rfl) ((hx.cell 2).trans rfl) ((hx.cell 3).trans rfl) ((hx.cell 4).trans rfl))
  have HC4 := Lib.hid (fun (W : World) (hb : Below w.heap.size w W) (hx : Blk W w.heap.size 76 #[.string s, .int .i64 no, .int .i64 ma, .int .i64 fe, .slice C p e2]) => l18Known_calls B m d g w.heap.size 0 (⟨s, no, ma, fe, p, ss, ms⟩ : BellV) W (h2.keep hb) hm ⟨C, e2, (hx.cell 0).trans rfl, (hx.cell 1).trans rfl, (hx.cell 2).trans rfl, (hx.cell 3).trans rfl, (hx.cell 4).trans rfl, ShareRow.keep h3 hb⟩ hp)
  rw [q2] at HC2
  rw [show bellB s no ma fe p ss ms = o3 from q3] at HC3
  rw [q4] at HC4
  obtain ⟨RC, hRC⟩ : ∃ RC, RC = abC s0 a1 a2 a3 a4 n g m (⟨s, no, ma, fe, p, ss, ms⟩ : BellV) := ⟨_, rfl⟩
  obtain ⟨F0, hF0⟩ : ∃ F, F = abF s0 a1 a2 a3 a4 n g m (⟨s, no, ma, fe, p, ss, ms⟩ : BellV) 0 := ⟨_, rfl⟩
  obtain ⟨F1, hF1⟩ : ∃ F, F = abF s0 a1 a2 a3 a4 n g m (⟨s, no, ma, fe, p, ss, ms⟩ : BellV) 1 := ⟨_, rfl⟩
  obtain ⟨F2, hF2⟩ : ∃ F, F = abF s0 a1 a2 a3 a4 n g m (⟨s, no, ma, fe, p, ss, ms⟩ : BellV) 2 := ⟨_, rfl⟩
  rw [← hRC, ← hF0, ← hF1, ← hF2]
  have HRC := Lib.hid hRC
  have HF0 := Lib.hid hF0
  have HF1 := Lib.hid hF1
  have HF2 := Lib.hid hF2
  have Q1 := Lib.hid q1
  have Q2 := Lib.hid q2
  have Q3 := Lib.hid q3
  have Q4 := Lib.hid q4
  clear h h2 hg h3 hss hal hsz hRC hF0 hF1 hF2 q1 q2 q3 q4
  go_enter Try.func36, Try.ntmps36
  go_wp2_with fail
  go_at_call 98
  with_reducible refine HC1.out.mono ?_
  rintro e w1 ⟨rfl, hb1⟩
  have hbr := HAL.out.trans (hb1.mono HAL.out.size)
  have HX1 := Lib.hid (HX.out.keep hb1)
  have HY1 := Lib.hid (HY.out.keep hb1)
  clear HC1 HX HY hb1 HAL
  cases o1
  · have hR : abC s0 a1 a2 a3 a4 n g m (⟨s, no, ma, fe, p, ss, ms⟩ : BellV) = 1 := by simp [abC, Q1.out]
    have R2 := HY1.out
    have f0 := R2.frozen 0; have f1 := R2.frozen 1; have f2 := R2.frozen 2; have y0 := (R2.cell 0).trans rfl; have y1 := (R2.cell 1).trans rfl; have y2 := (R2.cell 2).trans rfl; have hl := R2.lt
    go_wp2
    refine bodyPost_ret (v := .tuple #[.agg #[.int .i64 0, .int .i64 0, .int .i64 0], .int .i64 1]) (by simp [results, Try.results36, go_sem, y0, y1, y2, hl]) rfl ?_
    have hne : abC s0 a1 a2 a3 a4 n g m (⟨s, no, ma, fe, p, ss, ms⟩ : BellV) ≠ 0 := by rw [hR]; omega
    refine ⟨by rw [HRC.out, hR, HF0.out, HF1.out, HF2.out, abF_no s0 a1 a2 a3 a4 hne, abF_no s0 a1 a2 a3 a4 hne, abF_no s0 a1 a2 a3 a4 hne], ?_⟩
    go_grown
  · go_wp2_with fail
    go_at_call 99
    refine (HC2.out _ hbr).mono ?_
    rintro e w2 ⟨rfl, nd, rfl⟩
    replace HX1 := Lib.hid (HX1.out.drewN nd)
    replace HY1 := Lib.hid (HY1.out.drewN nd)
    replace hbr := below_drewN hbr nd
    generalize w1.drewN nd = w2 at *
    cases o2
    · have hR : abC s0 a1 a2 a3 a4 n g m (⟨s, no, ma, fe, p, ss, ms⟩ : BellV) = 1 := by simp [abC, ioC, Q1.out, Q2.out]
      have R2 := HY1.out
      have f0 := R2.frozen 0; have f1 := R2.frozen 1; have f2 := R2.frozen 2; have y0 := (R2.cell 0).trans rfl; have y1 := (R2.cell 1).trans rfl; have y2 := (R2.cell 2).trans rfl; have hl := R2.lt
      go_wp2
      refine bodyPost_ret (v := .tuple #[.agg #[.int .i64 0, .int .i64 0, .int .i64 0], .int .i64 1]) (by simp [results, Try.results36, go_sem, y0, y1, y2, hl]) rfl ?_
      have hne : abC s0 a1 a2 a3 a4 n g m (⟨s, no, ma, fe, p, ss, ms⟩ : BellV) ≠ 0 := by rw [hR]; omega
      refine ⟨by rw [HRC.out, hR, HF0.out, HF1.out, HF2.out, abF_no s0 a1 a2 a3 a4 hne, abF_no s0 a1 a2 a3 a4 hne, abF_no s0 a1 a2 a3 a4 hne], ?_⟩
      go_grown
    · go_wp2_with fail
      go_at_call 100
      refine (HC3.out _ hbr HX1.out).mono ?_
      rintro e w3 ⟨rfl, nd2, rfl⟩
      replace HX1 := Lib.hid (HX1.out.drewN nd2)
      replace HY1 := Lib.hid (HY1.out.drewN nd2)
      replace hbr := below_drewN hbr nd2
      generalize w2.drewN nd2 = w3 at *
      cases o3
      · have hR : abC s0 a1 a2 a3 a4 n g m (⟨s, no, ma, fe, p, ss, ms⟩ : BellV) = 1 := by simp [abC, ioC, Q1.out, Q2.out, Q3.out]
        have R2 := HY1.out
        have f0 := R2.frozen 0; have f1 := R2.frozen 1; have f2 := R2.frozen 2; have y0 := (R2.cell 0).trans rfl; have y1 := (R2.cell 1).trans rfl; have y2 := (R2.cell 2).trans rfl; have hl := R2.lt
        go_wp2
        refine bodyPost_ret (v := .tuple #[.agg #[.int .i64 0, .int .i64 0, .int .i64 0], .int .i64 1]) (by simp [results, Try.results36, go_sem, y0, y1, y2, hl]) rfl ?_
        have hne : abC s0 a1 a2 a3 a4 n g m (⟨s, no, ma, fe, p, ss, ms⟩ : BellV) ≠ 0 := by rw [hR]; omega
        refine ⟨by rw [HRC.out, hR, HF0.out, HF1.out, HF2.out, abF_no s0 a1 a2 a3 a4 hne, abF_no s0 a1 a2 a3 a4 hne, abF_no s0 a1 a2 a3 a4 hne], ?_⟩
        go_grown
      · go_wp2_with fail
        go_at_call 101
        refine (HC4.out _ hbr HX1.out).mono ?_
        rintro e w4 ⟨rfl, rfl⟩
        clear HC2 HC3 HC4
        cases o4
        · have hR : abC s0 a1 a2 a3 a4 n g m (⟨s, no, ma, fe, p, ss, ms⟩ : BellV) = 3 := by simp [abC, ioC, Q1.out, Q2.out, Q3.out, Q4.out]
          have R2 := HY1.out
          have f0 := R2.frozen 0; have f1 := R2.frozen 1; have f2 := R2.frozen 2; have y0 := (R2.cell 0).trans rfl; have y1 := (R2.cell 1).trans rfl; have y2 := (R2.cell 2).trans rfl; have hl := R2.lt
          go_wp2
          refine bodyPost_ret (v := .tuple #[.agg #[.int .i64 0, .int .i64 0, .int .i64 0], .int .i64 3]) (by simp [results, Try.results36, go_sem, y0, y1, y2, hl]) rfl ?_
          have hne : abC s0 a1 a2 a3 a4 n g m (⟨s, no, ma, fe, p, ss, ms⟩ : BellV) ≠ 0 := by rw [hR]; omega
          refine ⟨by rw [HRC.out, hR, HF0.out, HF1.out, HF2.out, abF_no s0 a1 a2 a3 a4 hne, abF_no s0 a1 a2 a3 a4 hne, abF_no s0 a1 a2 a3 a4 hne], ?_⟩
          go_grown
        · have hio : ioC g m (⟨s, no, ma, fe, p, ss, ms⟩ : BellV) = 0 := by simp [ioC, Q2.out, Q3.out, Q4.out]
          have hin := bellIn_of Q2.out Q3.out Q4.out
          obtain ⟨⟨w1a, w1b⟩, ⟨w2a, w2b⟩, w3x⟩ := bellV_whole Q3.out
          have hfew := bellV_few Q3.out
          have hp4 : p ≤ 4 := hin.n4
          have w1a : 1 ≤ ma := w1a
          have w1b : ma ≤ 20000000 := w1b
          have w2a : 0 ≤ fe := w2a
          have w2b : fe ≤ 20000000 := w2b
          have w3x : 1 ≤ p := w3x
          have HIN := Lib.hid hin
          have HFEW := Lib.hid hfew
          have HI := Lib.hid (okIngs_bd Q1.out).1
          have HP := Lib.hid (okIngs_pos Q1.out)
          have HCC := Lib.hid (show abC s0 a1 a2 a3 a4 n g m (⟨s, no, ma, fe, p, ss, ms⟩ : BellV) = if abH s0 n g m (⟨s, no, ma, fe, p, ss, ms⟩ : BellV) p = true then 0 else 3 by simp [abC, Q1.out, hio])
          clear hio hin hfew
          go_wp2
          go_loopw [8, 9, 10] (fun t o i wr => ∃ (k : Nat) (T O : Int), k ≤ p ∧ i = .int .i64 k ∧ t = .int .i64 T ∧ o = .int .i64 O ∧ Hid (T = abS s0 n a1 a3 g m (⟨s, no, ma, fe, p, ss, ms⟩ : BellV) k) ∧ Hid (O = abS s0 n a1 a4 g m (⟨s, no, ma, fe, p, ss, ms⟩ : BellV) k) ∧ Hid (abH s0 n g m (⟨s, no, ma, fe, p, ss, ms⟩ : BellV) k = true) ∧ Hid (Blk wr w.heap.size 76 #[.string s, .int .i64 no, .int .i64 ma, .int .i64 fe, .slice C p e2]) ∧ Hid (Blk wr (w.heap.size + 1) 67 #[.int .i64 0, .int .i64 0, .int .i64 0]) ∧ Below w.heap.size w wr) (fun _ _ i _ => p - (intOf i).toNat)
          case atStart => exact ⟨0, 0, 0, by omega, rfl, rfl, rfl, Lib.hid rfl, Lib.hid rfl, Lib.hid rfl, HX1, HY1, hbr⟩
          case round =>
            clear HX1 HY1 hbr
            obtain ⟨k, T, O, hk, rfl, rfl, rfl, hT, hO, hgood, hx, hy, hbr⟩ := hrel
            have bdT := abS_bd (s0 := s0) (n := n) (a1 := a1) (r := a3) (g := g) (m := m) (x := (⟨s, no, ma, fe, p, ss, ms⟩ : BellV)) (N := k) (fun j hj => by have h_ : 1 ≤ ms j ∧ ms j ≤ 20000000 := HFEW.out.2 j (by show j < p; omega); show 0 ≤ ms j ∧ ms j ≤ 20000000; omega) (fun j hj => (mT_bd s0 a1 a2 a3 a4 (HIN.out.at_ j (by show j < p; omega)).2.2.2.1 (allB_of hgood.out j hj) HI.out HP.out).1) k (Nat.le_refl _)
            have bdO := abS_bd (s0 := s0) (n := n) (a1 := a1) (r := a4) (g := g) (m := m) (x := (⟨s, no, ma, fe, p, ss, ms⟩ : BellV)) (N := k) (fun j hj => by have h_ : 1 ≤ ms j ∧ ms j ≤ 20000000 := HFEW.out.2 j (by show j < p; omega); show 0 ≤ ms j ∧ ms j ≤ 20000000; omega) (fun j hj => (mT_bd s0 a1 a2 a3 a4 (HIN.out.at_ j (by show j < p; omega)).2.2.2.1 (allB_of hgood.out j hj) HI.out HP.out).2) k (Nat.le_refl _)
            rw [← hT.out] at bdT
            rw [← hO.out] at bdO
            have u2 := (hx.out.cell 2).trans rfl
            have u3 := (hx.out.cell 3).trans rfl
            have u4 := (hx.out.cell 4).trans rfl
            by_cases hlt : k < p
            · obtain ⟨b2, o2, rfl, hrow2⟩ := HSH.out (by omega)
              obtain ⟨e0, e1⟩ := (hrow2 k hlt).below hbr (Nat.le_refl _)
              have HR2 := Lib.hid hrow2
              have hms := HFEW.out.2 k hlt
              have hms : 1 ≤ ms k ∧ ms k ≤ 20000000 := hms
              obtain ⟨b1, bb2, bb3, b4, b5⟩ := HIN.out.at_ k hlt
              obtain ⟨-, a6, -⟩ := mIx_of bb3
              obtain ⟨q, hq⟩ : ∃ q, q = mIx (fun q => (g q).id) m (ss k) := ⟨_, rfl⟩
              have hsm : shM g m (⟨s, no, ma, fe, p, ss, ms⟩ : BellV) k = g q := by rw [hq]; rfl
              have HSM := Lib.hid hsm
              have HC := l18Melt_calls B m d g (ss k) wr (HM.out.keep hbr) hm
              have a6' : fno (fun q => !eqS (g q).id (ss k)) m = (q : Int) := by rw [hq]; exact a6
              rw [a6'] at HC
              have HCC2 := Lib.hid HC
              have a1' : q < m := by rw [hq]; exact b1
              have b4' : 1 ≤ (g q).n := by rw [hq]; exact b4
              obtain ⟨b3, o3, rfl, hrow3⟩ := HM.out (by omega)
              obtain ⟨AQ, CQ, d0, d1, d2, d3⟩ := hrow3 q a1'
              have D3 := Lib.hid (d3.keep hbr)
              have v0 := cell_keep hbr d0
              have v1 := cell_keep hbr d1
              have v2 := cell_keep hbr d2
              have HR3 := Lib.hid hrow3
              have HV := Lib.hid (okM_V Q2.out a1')
              have HFQ := Lib.hid (HG.out q a1')
              obtain ⟨x1, hx1⟩ : ∃ x, x = ms k := ⟨_, rfl⟩
              rw [← hx1] at hms e1
              have HXX1 := Lib.hid hx1
              clear hrow2 hrow3 HC b1 bb2 bb3 b4 b5 a6 a6' d0 d1 d2 d3 hq hsm hx1
              go_wp2_with fail
              go_at_call 103
              with_reducible refine HCC2.out.mono ?_
              rintro e w4 ⟨rfl, rfl⟩
              cases q9 : allHave s0 n (g q).ss (g q).n
              · have HE := Lib.hid (sAlloyOfMelt_no A n c s0 a1 a2 a3 a4 (g q).id AQ (g q).n CQ (g q).ss (g q).ma wr (H.out.below hbr (Nat.le_refl _)) HZ.out hn Q1.out D3.out HV.out HFQ.out q9)
                have HNO := Lib.hid (show abH s0 n g m (⟨s, no, ma, fe, p, ss, ms⟩ : BellV) p = false from allB_no hlt (by rw [HSM.out]; exact q9))
                have hR : abC s0 a1 a2 a3 a4 n g m (⟨s, no, ma, fe, p, ss, ms⟩ : BellV) = 3 := by rw [HCC.out, HNO.out]; rfl
                go_wp2_with fail
                go_at_call 102
                with_reducible refine HE.out.mono ?_
                rintro e w5 ⟨rfl, hb5⟩
                have hbr5 := hbr.trans (hb5.mono hbr.size)
                have R2 := hy.out.keep hb5
                clear hb5 hbr hx hy u2 u3 u4 e0 e1 v0 v1 v2
                have f0 := R2.frozen 0; have f1 := R2.frozen 1; have f2 := R2.frozen 2; have y0 := (R2.cell 0).trans rfl; have y1 := (R2.cell 1).trans rfl; have y2 := (R2.cell 2).trans rfl; have hl := R2.lt
                go_wp2
                refine bodyPost_ret (v := .tuple #[.agg #[.int .i64 0, .int .i64 0, .int .i64 0], .int .i64 3]) (by simp [results, Try.results36, go_sem, y0, y1, y2, hl]) rfl ?_
                have hne : abC s0 a1 a2 a3 a4 n g m (⟨s, no, ma, fe, p, ss, ms⟩ : BellV) ≠ 0 := by rw [hR]; omega
                refine ⟨by rw [HRC.out, hR, HF0.out, HF1.out, HF2.out, abF_no s0 a1 a2 a3 a4 hne, abF_no s0 a1 a2 a3 a4 hne, abF_no s0 a1 a2 a3 a4 hne], ?_⟩
                go_grown
              · have HE := Lib.hid (sAlloyOfMelt_yes A n c s0 a1 a2 a3 a4 (g q).id AQ (g q).n CQ (g q).ss (g q).ma wr (H.out.below hbr (Nat.le_refl _)) HZ.out hn Q1.out D3.out HV.out HFQ.out q9)
                have bdq := mT_bd s0 a1 a2 a3 a4 b4' q9 HI.out HP.out
                obtain ⟨TQ, hTQ⟩ : ∃ TQ, TQ = mT s0 n a1 a3 (g q).ss (g q).n := ⟨_, rfl⟩
                obtain ⟨OQ, hOQ⟩ : ∃ OQ, OQ = mT s0 n a1 a4 (g q).ss (g q).n := ⟨_, rfl⟩
                rw [← hTQ, ← hOQ] at bdq HE
                have n1 : Hid (T + x1 * TQ = abS s0 n a1 a3 g m (⟨s, no, ma, fe, p, ss, ms⟩ : BellV) (k + 1)) := Lib.hid (by rw [hT.out, HXX1.out, hTQ, ← HSM.out]; rfl)
                have n2 : Hid (O + x1 * OQ = abS s0 n a1 a4 g m (⟨s, no, ma, fe, p, ss, ms⟩ : BellV) (k + 1)) := Lib.hid (by rw [hO.out, HXX1.out, hOQ, ← HSM.out]; rfl)
                have n3 : Hid (abH s0 n g m (⟨s, no, ma, fe, p, ss, ms⟩ : BellV) (k + 1) = true) := Lib.hid (by rw [show abH s0 n g m (⟨s, no, ma, fe, p, ss, ms⟩ : BellV) (k + 1) = (abH s0 n g m (⟨s, no, ma, fe, p, ss, ms⟩ : BellV) k && allHave s0 n (shM g m (⟨s, no, ma, fe, p, ss, ms⟩ : BellV) k).ss (shM g m (⟨s, no, ma, fe, p, ss, ms⟩ : BellV) k).n) from rfl, hgood.out, HSM.out, q9]; rfl)
                have p1 := mul_le7 (x := x1) (y := TQ) ⟨by omega, by omega⟩ bdq.1
                have p2 := mul_le7 (x := x1) (y := OQ) ⟨by omega, by omega⟩ bdq.2
                clear hTQ hOQ hT hO hgood
                go_wp2_with fail
                go_at_call 102
                with_reducible refine HE.out.mono ?_
                rintro e w5 ⟨rfl, hb5⟩
                have hbr5 := hbr.trans (hb5.mono hbr.size)
                have hal5 := (Below.refl w5.heap.size w5).alloc (Nat.le_refl _) (.cells #[.int .i64 (1000000 - TQ - OQ), .int .i64 TQ, .int .i64 OQ] 67)
                have HX5 := Lib.hid ((hx.out.keep hb5).keep hal5)
                have HY5 := Lib.hid ((hy.out.keep hb5).keep hal5)
                have X5 := hx.out.keep hb5
                have HB5 := Lib.hid (hbr5.alloc hbr5.size (.cells #[.int .i64 (1000000 - TQ - OQ), .int .i64 TQ, .int .i64 OQ] 67))
                clear u2 u3 u4
                have u4 := (X5.cell 4).trans rfl
                have e1' := cell_keep hb5 e1
                have hXl := X5.lt
                have hbl := cell_lt e1'
                clear hb5 hbr hbr5 hx hy e0 e1 v0 v1 v2 hal5 X5
                have t1 : IntKind.i64.wrap (x1 * TQ) = x1 * TQ := IntWalk.i64_in _ ⟨by omega, by omega⟩
                have t2 : IntKind.i64.wrap (x1 * OQ) = x1 * OQ := IntWalk.i64_in _ ⟨by omega, by omega⟩
                have t3 : IntKind.i64.wrap (T + x1 * TQ) = T + x1 * TQ := IntWalk.i64_in _ ⟨by omega, by omega⟩
                have t4 : IntKind.i64.wrap (O + x1 * OQ) = O + x1 * OQ := IntWalk.i64_in _ ⟨by omega, by omega⟩
                go_wp2_with fail
                refine wp_gen (fun W0 hW0 => ?_)
                have s0_ : Below w.heap.size w W0 := by rw [hW0]; exact HB5.out
                have s1_ : W0.cell? ⟨w.heap.size, 4, none⟩ = some (.slice (some ⟨b2, o2, none⟩) p e2) := by rw [hW0]; exact (HX5.out.cell 4).trans rfl
                have s2_ : W0.cell? ⟨b2, o2 + k * 2 + 1, none⟩ = some (.int .i64 x1) := by rw [hW0]; exact cell_arA e1' _
                have s3_ : W0.cell? ⟨w5.heap.size, 1, none⟩ = some (.int .i64 TQ) := by rw [hW0]; simp
                have s4_ : W0.cell? ⟨w5.heap.size, 2, none⟩ = some (.int .i64 OQ) := by rw [hW0]; simp
                have s5_ : Blk W0 w.heap.size 76 #[.string s, .int .i64 no, .int .i64 ma, .int .i64 fe, .slice (some ⟨b2, o2, none⟩) p e2] := by rw [hW0]; exact HX5.out
                have s6_ : Blk W0 (w.heap.size + 1) 67 #[.int .i64 0, .int .i64 0, .int .i64 0] := by rw [hW0]; exact HY5.out
                clear u4 e1'
                clear hW0
                refine wp_region_held_drew (S := fun w' => Below w.heap.size w w' ∧ w'.cell? ⟨w.heap.size, 4, none⟩ = some (.slice (some ⟨b2, o2, none⟩) p e2) ∧ w'.cell? ⟨b2, o2 + k * 2 + 1, none⟩ = some (.int .i64 x1) ∧ w'.cell? ⟨w5.heap.size, 1, none⟩ = some (.int .i64 TQ) ∧ w'.cell? ⟨w5.heap.size, 2, none⟩ = some (.int .i64 OQ) ∧ Blk w' w.heap.size 76 #[.string s, .int .i64 no, .int .i64 ma, .int .i64 fe, .slice (some ⟨b2, o2, none⟩) p e2] ∧ Blk w' (w.heap.size + 1) 67 #[.int .i64 0, .int .i64 0, .int .i64 0]) (by kernel_rfl) ?_ (fun hHeld => ?_)
                · exact ⟨s0_.drew, s1_, s2_, s3_, s4_, s5_, s6_⟩
                clear s0_ s1_ s2_ s3_ s4_ s5_ s6_
                refine take_yes (i := 0) (d := 58) (v := ?_) _ rfl rfl (by kernel_rfl) (by kernel_rfl) (by kernel_rfl) (fun _ _ _ _ h => h) (by rfl) ?_ (by assumption) ?_
                rotate_left 1
                · ((intro w hSw; (try dsimp only at hSw); go_simp) <;> (try with_reducible rfl))
                (try simp only [Act.put, List.setIfInBounds_toArray, List.set_cons_zero, List.set_cons_succ])
                refine take_yes (i := 1) (d := 59) (v := ?_) _ rfl rfl (by kernel_rfl) (by kernel_rfl) (by kernel_rfl) (fun _ _ _ _ h => h) (by rfl) ?_ (by assumption) ?_
                rotate_left 1
                · ((intro w hSw; (try dsimp only at hSw); go_simp) <;> (try with_reducible rfl))
                (try simp only [Act.put, List.setIfInBounds_toArray, List.set_cons_zero, List.set_cons_succ])
                refine take_yes (i := 2) (d := 60) (v := ?_) _ rfl rfl (by kernel_rfl) (by kernel_rfl) (by kernel_rfl) (fun _ _ _ _ h => h) (by rfl) ?_ (by assumption) ?_
                rotate_left 1
                · ((intro w hSw; (try dsimp only at hSw); go_simp) <;> (try with_reducible rfl))
                (try simp only [Act.put, List.setIfInBounds_toArray, List.set_cons_zero, List.set_cons_succ])
                refine take_yes (i := 3) (d := 61) (v := ?_) _ rfl rfl (by kernel_rfl) (by kernel_rfl) (by kernel_rfl) (fun _ _ _ _ h => h) (by rfl) ?_ (by assumption) ?_
                rotate_left 1
                · ((intro w hSw; (try dsimp only at hSw); go_simp) <;> (try with_reducible rfl))
                (try simp only [Act.put, List.setIfInBounds_toArray, List.set_cons_zero, List.set_cons_succ])
                refine take_yes (i := 4) (d := 62) (v := ?_) _ rfl rfl (by kernel_rfl) (by kernel_rfl) (by kernel_rfl) (fun _ _ _ _ h => h) (by rfl) ?_ (by assumption) ?_
                rotate_left 1
                · ((intro w hSw; (try dsimp only at hSw); go_simp) <;> (try with_reducible rfl))
                (try simp only [Act.put, List.setIfInBounds_toArray, List.set_cons_zero, List.set_cons_succ])
                refine take_yes (i := 5) (d := 63) (v := ?_) _ rfl rfl (by kernel_rfl) (by kernel_rfl) (by kernel_rfl) (fun _ _ _ _ h => h) (by rfl) ?_ (by assumption) ?_
                rotate_left 1
                · ((intro w hSw; (try dsimp only at hSw); go_simp) <;> (try with_reducible rfl))
                (try simp only [Act.put, List.setIfInBounds_toArray, List.set_cons_zero, List.set_cons_succ])
                refine take_yes (i := 6) (d := 64) (v := ?_) _ rfl rfl (by kernel_rfl) (by kernel_rfl) (by kernel_rfl) (fun _ _ _ _ h => h) (by rfl) ?_ (by assumption) ?_
                rotate_left 1
                · ((intro w hSw; (try dsimp only at hSw); go_simp) <;> (try with_reducible rfl))
                (try simp only [Act.put, List.setIfInBounds_toArray, List.set_cons_zero, List.set_cons_succ])
                refine take_yes (i := 7) (d := 65) (v := ?_) _ rfl rfl (by kernel_rfl) (by kernel_rfl) (by kernel_rfl) (fun _ _ _ _ h => h) (by rfl) ?_ (by assumption) ?_
                rotate_left 1
                · ((intro w hSw; (try dsimp only at hSw); go_simp) <;> (try with_reducible rfl))
                (try simp only [Act.put, List.setIfInBounds_toArray, List.set_cons_zero, List.set_cons_succ])
                refine take_yes (i := 8) (d := 66) (v := ?_) _ rfl rfl (by kernel_rfl) (by kernel_rfl) (by kernel_rfl) (fun _ _ _ _ h => h) (by rfl) ?_ (by assumption) ?_
                rotate_left 1
                · ((intro w hSw; (try dsimp only at hSw); go_simp) <;> (try with_reducible rfl))
                (try simp only [Act.put, List.setIfInBounds_toArray, List.set_cons_zero, List.set_cons_succ])
                refine take_yes (i := 9) (d := 67) (v := ?_) _ rfl rfl (by kernel_rfl) (by kernel_rfl) (by kernel_rfl) (fun _ _ _ _ h => h) (by rfl) ?_ (by assumption) ?_
                rotate_left 1
                · ((intro w hSw; (try dsimp only at hSw); go_simp) <;> (try with_reducible rfl))
                (try simp only [Act.put, List.setIfInBounds_toArray, List.set_cons_zero, List.set_cons_succ])
                refine take_yes (i := 10) (d := 68) (v := ?_) _ rfl rfl (by kernel_rfl) (by kernel_rfl) (by kernel_rfl) (fun _ _ _ _ h => h) (by rfl) ?_ (by assumption) ?_
                rotate_left 1
                · ((intro w hSw; (try dsimp only at hSw); go_simp) <;> (try with_reducible rfl))
                (try simp only [Act.put, List.setIfInBounds_toArray, List.set_cons_zero, List.set_cons_succ])
                refine take_yes (i := 11) (d := 8) (v := ?_) _ rfl rfl (by kernel_rfl) (by kernel_rfl) (by kernel_rfl) (fun _ _ _ _ h => h) (by rfl) ?_ (by assumption) ?_
                rotate_left 1
                · ((intro w hSw; (try dsimp only at hSw); go_simp) <;> (try with_reducible rfl))
                (try simp only [Act.put, List.setIfInBounds_toArray, List.set_cons_zero, List.set_cons_succ])
                refine wpAnyH_done (by kernel_rfl) ?_ _
                obtain ⟨z0, z1, z2, z3, z4, z5, z6⟩ := hHeld
                go_wp2_with fail
                refine wp_gen (fun W0 hW0 => ?_)
                have s0_ : Below w.heap.size w W0 := by rw [hW0]; exact z0
                have s1_ : W0.cell? ⟨w.heap.size, 4, none⟩ = some (.slice (some ⟨b2, o2, none⟩) p e2) := by rw [hW0]; exact z1
                have s2_ : W0.cell? ⟨b2, o2 + k * 2 + 1, none⟩ = some (.int .i64 x1) := by rw [hW0]; exact z2
                have s3_ : W0.cell? ⟨w5.heap.size, 1, none⟩ = some (.int .i64 TQ) := by rw [hW0]; exact z3
                have s4_ : W0.cell? ⟨w5.heap.size, 2, none⟩ = some (.int .i64 OQ) := by rw [hW0]; exact z4
                have s5_ : Blk W0 w.heap.size 76 #[.string s, .int .i64 no, .int .i64 ma, .int .i64 fe, .slice (some ⟨b2, o2, none⟩) p e2] := by rw [hW0]; exact z5
                have s6_ : Blk W0 (w.heap.size + 1) 67 #[.int .i64 0, .int .i64 0, .int .i64 0] := by rw [hW0]; exact z6
                clear z0 z1 z2 z3 z4 z5 z6
                clear hW0
                refine wp_region_held_drew (S := fun w' => Below w.heap.size w w' ∧ w'.cell? ⟨w.heap.size, 4, none⟩ = some (.slice (some ⟨b2, o2, none⟩) p e2) ∧ w'.cell? ⟨b2, o2 + k * 2 + 1, none⟩ = some (.int .i64 x1) ∧ w'.cell? ⟨w5.heap.size, 1, none⟩ = some (.int .i64 TQ) ∧ w'.cell? ⟨w5.heap.size, 2, none⟩ = some (.int .i64 OQ) ∧ Blk w' w.heap.size 76 #[.string s, .int .i64 no, .int .i64 ma, .int .i64 fe, .slice (some ⟨b2, o2, none⟩) p e2] ∧ Blk w' (w.heap.size + 1) 67 #[.int .i64 0, .int .i64 0, .int .i64 0]) (by kernel_rfl) ?_ (fun hHeld => ?_)
                · exact ⟨s0_.drew, s1_, s2_, s3_, s4_, s5_, s6_⟩
                clear s0_ s1_ s2_ s3_ s4_ s5_ s6_
                refine take_yes (i := 0) (d := 69) (v := ?_) _ rfl rfl (by kernel_rfl) (by kernel_rfl) (by kernel_rfl) (fun _ _ _ _ h => h) (by rfl) ?_ (by assumption) ?_
                rotate_left 1
                · ((intro w hSw; (try dsimp only at hSw); go_simp) <;> (try with_reducible rfl))
                (try simp only [Act.put, List.setIfInBounds_toArray, List.set_cons_zero, List.set_cons_succ])
                refine take_yes (i := 1) (d := 70) (v := ?_) _ rfl rfl (by kernel_rfl) (by kernel_rfl) (by kernel_rfl) (fun _ _ _ _ h => h) (by rfl) ?_ (by assumption) ?_
                rotate_left 1
                · ((intro w hSw; (try dsimp only at hSw); go_simp) <;> (try with_reducible rfl))
                (try simp only [Act.put, List.setIfInBounds_toArray, List.set_cons_zero, List.set_cons_succ])
                refine take_yes (i := 2) (d := 71) (v := ?_) _ rfl rfl (by kernel_rfl) (by kernel_rfl) (by kernel_rfl) (fun _ _ _ _ h => h) (by rfl) ?_ (by assumption) ?_
                rotate_left 1
                · ((intro w hSw; (try dsimp only at hSw); go_simp) <;> (try with_reducible rfl))
                (try simp only [Act.put, List.setIfInBounds_toArray, List.set_cons_zero, List.set_cons_succ])
                refine take_yes (i := 3) (d := 72) (v := ?_) _ rfl rfl (by kernel_rfl) (by kernel_rfl) (by kernel_rfl) (fun _ _ _ _ h => h) (by rfl) ?_ (by assumption) ?_
                rotate_left 1
                · ((intro w hSw; (try dsimp only at hSw); go_simp) <;> (try with_reducible rfl))
                (try simp only [Act.put, List.setIfInBounds_toArray, List.set_cons_zero, List.set_cons_succ])
                refine take_yes (i := 4) (d := 73) (v := ?_) _ rfl rfl (by kernel_rfl) (by kernel_rfl) (by kernel_rfl) (fun _ _ _ _ h => h) (by rfl) ?_ (by assumption) ?_
                rotate_left 1
                · ((intro w hSw; (try dsimp only at hSw); go_simp) <;> (try with_reducible rfl))
                (try simp only [Act.put, List.setIfInBounds_toArray, List.set_cons_zero, List.set_cons_succ])
                refine take_yes (i := 5) (d := 74) (v := ?_) _ rfl rfl (by kernel_rfl) (by kernel_rfl) (by kernel_rfl) (fun _ _ _ _ h => h) (by rfl) ?_ (by assumption) ?_
                rotate_left 1
                · ((intro w hSw; (try dsimp only at hSw); go_simp) <;> (try with_reducible rfl))
                (try simp only [Act.put, List.setIfInBounds_toArray, List.set_cons_zero, List.set_cons_succ])
                refine take_yes (i := 6) (d := 75) (v := ?_) _ rfl rfl (by kernel_rfl) (by kernel_rfl) (by kernel_rfl) (fun _ _ _ _ h => h) (by rfl) ?_ (by assumption) ?_
                rotate_left 1
                · ((intro w hSw; (try dsimp only at hSw); go_simp) <;> (try with_reducible rfl))
                (try simp only [Act.put, List.setIfInBounds_toArray, List.set_cons_zero, List.set_cons_succ])
                refine take_yes (i := 7) (d := 76) (v := ?_) _ rfl rfl (by kernel_rfl) (by kernel_rfl) (by kernel_rfl) (fun _ _ _ _ h => h) (by rfl) ?_ (by assumption) ?_
                rotate_left 1
                · ((intro w hSw; (try dsimp only at hSw); go_simp) <;> (try with_reducible rfl))
                (try simp only [Act.put, List.setIfInBounds_toArray, List.set_cons_zero, List.set_cons_succ])
                refine take_yes (i := 8) (d := 77) (v := ?_) _ rfl rfl (by kernel_rfl) (by kernel_rfl) (by kernel_rfl) (fun _ _ _ _ h => h) (by rfl) ?_ (by assumption) ?_
                rotate_left 1
                · ((intro w hSw; (try dsimp only at hSw); go_simp) <;> (try with_reducible rfl))
                (try simp only [Act.put, List.setIfInBounds_toArray, List.set_cons_zero, List.set_cons_succ])
                refine take_yes (i := 9) (d := 78) (v := ?_) _ rfl rfl (by kernel_rfl) (by kernel_rfl) (by kernel_rfl) (fun _ _ _ _ h => h) (by rfl) ?_ (by assumption) ?_
                rotate_left 1
                · ((intro w hSw; (try dsimp only at hSw); go_simp) <;> (try with_reducible rfl))
                (try simp only [Act.put, List.setIfInBounds_toArray, List.set_cons_zero, List.set_cons_succ])
                refine take_yes (i := 10) (d := 79) (v := ?_) _ rfl rfl (by kernel_rfl) (by kernel_rfl) (by kernel_rfl) (fun _ _ _ _ h => h) (by rfl) ?_ (by assumption) ?_
                rotate_left 1
                · ((intro w hSw; (try dsimp only at hSw); go_simp) <;> (try with_reducible rfl))
                (try simp only [Act.put, List.setIfInBounds_toArray, List.set_cons_zero, List.set_cons_succ])
                refine take_yes (i := 11) (d := 9) (v := ?_) _ rfl rfl (by kernel_rfl) (by kernel_rfl) (by kernel_rfl) (fun _ _ _ _ h => h) (by rfl) ?_ (by assumption) ?_
                rotate_left 1
                · ((intro w hSw; (try dsimp only at hSw); go_simp) <;> (try with_reducible rfl))
                (try simp only [Act.put, List.setIfInBounds_toArray, List.set_cons_zero, List.set_cons_succ])
                refine wpAnyH_done (by kernel_rfl) ?_ _
                obtain ⟨y0, y1, y2, y3, y4, y5, y6⟩ := hHeld
                go_wp2
                go_roundw
                case rel => exact ⟨k + 1, T + x1 * TQ, O + x1 * OQ, by omega, by go_num, by go_num, by go_num, n1, n2, n3, Lib.hid y5, Lib.hid y6, y0⟩
                case measure => simp [intOf]; omega
            · obtain rfl : k = p := by omega
              have hs1 : RC = 0 := by rw [HRC.out, HCC.out, hgood.out]; rfl
              obtain ⟨g0, g1, g2⟩ := abF_yes s0 a1 a2 a3 a4 (x := (⟨s, no, ma, fe, k, ss, ms⟩ : BellV)) (by rw [← HRC.out]; exact hs1)
              have q1 : F1 = T / (ma + fe) := by rw [HF1.out, g1, hT.out]; rfl
              have q2 : F2 = O / (ma + fe) := by rw [HF2.out, g2, hO.out]; rfl
              have q0 : F0 = 1000000 - T / (ma + fe) - O / (ma + fe) := by rw [← q1, ← q2, HF0.out, g0, HF1.out, g1, HF2.out, g2]
              have HQ0 := Lib.hid q0
              have HQ1 := Lib.hid q1
              have HQ2 := Lib.hid q2
              have HQS := Lib.hid hs1
              have R2 := hy.out
              have f0 := R2.frozen 0; have f1 := R2.frozen 1; have f2 := R2.frozen 2; have y0 := (R2.cell 0).trans rfl; have y1 := (R2.cell 1).trans rfl; have y2 := (R2.cell 2).trans rfl; have hl := R2.lt
              have HBR := Lib.hid hbr
              have e1 := quo_nonneg (a := T) (b := ma + fe) (by omega) (by omega) (by omega)
              have e2 := quo_nonneg (a := O) (b := ma + fe) (by omega) (by omega) (by omega)
              have l1 := Int.ediv_le_self (ma + fe) bdT.1
              have l2 := Int.ediv_le_self (ma + fe) bdO.1
              have l3 := Int.ediv_nonneg bdT.1 (show 0 ≤ ma + fe by omega)
              have l4 := Int.ediv_nonneg bdO.1 (show 0 ≤ ma + fe by omega)
              have hM : ¬ ma + fe = 0 := by omega
              have e3 : IntKind.i64.wrap (ma + fe) = ma + fe := IntWalk.i64_in _ ⟨by omega, by omega⟩
              generalize T / (ma + fe) = QT at *
              generalize O / (ma + fe) = QO at *
              have u2a := cell_arA u2
              have u3a := cell_arA u3
              clear g0 g1 g2 q0 q1 q2 hs1 hT hO hgood hx hy R2 hbr HF0 HF1 HF2 HRC HCC
              go_wp2
              go_region
              all_goals go_wp2
              all_goals refine bodyPost_ret (v := .tuple #[.agg #[.int .i64 (1000000 - QT - QO), .int .i64 QT, .int .i64 QO], .int .i64 0]) (by simp [results, Try.results36, go_sem, y0, y1, y2, hl]) rfl ?_
              all_goals refine ⟨by rw [HQS.out, HQ0.out, HQ1.out, HQ2.out], ?_⟩
              all_goals (have hbr := HBR.out; go_grown)
end Go.Proofs.Ytkilfapknemjhaa
