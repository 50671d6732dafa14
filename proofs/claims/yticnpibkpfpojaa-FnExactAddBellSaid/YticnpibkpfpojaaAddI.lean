/- A bell added to a list, in the program. -/
import Derived.Test.YticnpibkpfpojaaAddP
import Derived.Test.YticnpibkpfpojaaMeltX
namespace Go.Proofs.Yticnpibkpfpojaa
set_option linter.unusedVariables false
set_option linter.unusedSimpArgs false
open Go.RowKit

theorem new_heldA {B : Nat} {a W : World} {cs : Array Value} {t : TypeId} {R : Prop} (h : Below B a (W.alloc (.cells cs t)) ∧ R) : Blk (W.alloc (.cells cs t)) W.heap.size t cs := Blk.new W t cs
theorem new_heldAD {B : Nat} {a W : World} {cs : Array Value} {t : TypeId} {R : Prop} (h : Below B a (W.alloc (.cells cs t)).drew ∧ R) : Blk (W.alloc (.cells cs t)).drew W.heap.size t cs := (Blk.new W t cs).drew
theorem ab_heldA {B : Nat} {a W : World} {o : Obj} {R : Prop} (h : Below B a (W.alloc o) ∧ R) : Below W.heap.size W (W.alloc o) := (Below.refl _ _).alloc (Nat.le_refl _) _
theorem ab_heldAD {B : Nat} {a W : World} {o : Obj} {R : Prop} (h : Below B a (W.alloc o).drew ∧ R) : Below W.heap.size W (W.alloc o).drew := ((Below.refl _ _).alloc (Nat.le_refl _) _).drew
/-- what the copy of the one bell leaves behind the copy of the list -/
def OneOut (base : Nat) (v : Value) (n : Nat) (xs : List Value) (f : Nat → BellV) (x : BellV) (G c3 : Nat) (w' : World) : Prop := ∃ top, w'.ownsRow base 38 5 v n xs ∧ (∀ z, v.ownBlock = some z → z < top) ∧ BellsX w' base top xs n f ∧ base ≤ top ∧ top ≤ G ∧ G < w'.heap.size ∧ ShareOwnC w' x.n x.ss x.ms G c3
theorem OneOut.keep {base : Nat} {v : Value} {n : Nat} {xs : List Value} {f : Nat → BellV} {x : BellV} {G c3 : Nat} {w w' : World} (h : OneOut base v n xs f x G c3 w) (hb : Below w.heap.size w w') : OneOut base v n xs f x G c3 w' := by
  obtain ⟨top, h1, h0, h2, h3, h4, h5, h6⟩ := h
  exact ⟨top, own_keep h1 hb, h0, h2.keep hb, h3, h4, Nat.lt_of_lt_of_le h5 hb.size, h6.keep hb⟩
theorem one_lt {base : Nat} {v : Value} {n : Nat} {xs : List Value} {f : Nat → BellV} {x : BellV} {G c3 : Nat} {w : World} (h : OneOut base v n xs f x G c3 w) : G < w.heap.size := by
  obtain ⟨top, -, -, -, -, -, h5, -⟩ := h
  exact h5
theorem BellsX.one {w : World} {base top n : Nat} {xs : List Value} {f : Nat → BellV} (h : BellsX w base top xs n f) : ∀ u ∈ xs, u.oneCell' = true := fun u hu => by
  obtain ⟨hl, gs, cs, hx, -⟩ := h
  obtain ⟨j, hj, rfl⟩ := List.getElem_of_mem hu
  obtain ⟨⟨a0, a1, a2, a3⟩, a4, -⟩ := hx (j / 5) (by omega)
  have e : ∀ v, xs[j]? = some v → v.oneCell' = true → xs[j].oneCell' = true := fun v hv h1 => by
    rw [List.getElem?_eq_getElem hj] at hv
    rw [Option.some.inj hv]; exact h1
  rcases (show j = j / 5 * 5 ∨ j = j / 5 * 5 + 1 ∨ j = j / 5 * 5 + 2 ∨ j = j / 5 * 5 + 3 ∨ j = j / 5 * 5 + 4 by omega) with q | q | q | q | q
  · exact e _ (by rw [q]; exact a0) rfl
  · exact e _ (by rw [q]; exact a1) rfl
  · exact e _ (by rw [q]; exact a2) rfl
  · exact e _ (by rw [q]; exact a3) rfl
  · exact e _ (by rw [q]; exact a4) rfl
theorem ins_last {base n : Nat} {A1 : Option Addr} {c1 k : Nat} {xs : List Value} {f : Nat → BellV} {x : BellV} {G c3 vb : Nat} {W : World} (h : OneOut base (.slice A1 n c1) n xs f x G c3 W) (hGv : G < vb) (hv : Blk W vb 38 (bellC x (.slice (some ⟨G, 0, none⟩) x.n c3)).toArray) (hk : k ≤ n) (hn : n ≤ 1048576) (hb : base ≤ W.heap.size) :
    Calls Try.prog 37 #[.slice A1 n c1, .int .i64 k, .slice (some ⟨vb, 0, none⟩) 1 1] W fun e w' => ∃ A9 c9 G9, e = .returned (.slice A9 (n + 1) c9) ∧ (BellOwn w' A9 (n + 1) (insF f k x) G9 base ∧ base ≤ G9) ∧ Below base W w' := by
  obtain ⟨top, ho, hz, hX, h3, h4, h5, h6⟩ := h
  refine (insBell_calls base n k A1 c1 xs W ho hk hn vb _ hv (fun e => by have := hz vb e.symm; omega) (bellC x (.slice (some ⟨G, 0, none⟩) x.n c3)) rfl (World.news_of_block hv) (fun u hu => by simp [bellC] at hu; rcases hu with rfl | rfl | rfl | rfl | rfl <;> rfl) hX.one hb).mono ?_
  rintro e w' ⟨v', rfl, hown, hgrow⟩
  have hX2 := (hX.insert (c := c3) h4 h5 h3 h6 hk).grow ho hgrow
  obtain ⟨A9, c9, G9, rfl, hB, hG⟩ := bellOwn_of hown hX2 hgrow.size
  exact ⟨A9, c9, G9, rfl, ⟨hB, hG⟩, (Below.refl base W).grown hgrow hb (fun z hz => (ho.lt z hz).1)⟩
set_option maxRecDepth 20000 in
set_option maxHeartbeats 8000000 in
theorem iAddBell_calls (B : Option Addr) (m d : Nat) (g : Nat → MeltV) (A : Option Addr) (n c : Nat) (f : Nat → BellV) (x : BellV) (C : Option Addr) (e2 : Nat) (w : World) (h2 : MeltRow w B m g) (hm : m ≤ 1048576) (hd : m ≤ d) (hg : ∀ i, i < m → FineM (g i)) (h : BellRow w A n f) (hn : n ≤ 1048576) (hnc : n ≤ c) (hf : ∀ i, i < n → Fine (f i)) (h3 : ShareRow w C x.n x.ss x.ms) (hx : Fine x) :
    Calls Try.prog 11 #[.slice B m d, .slice A n c, .agg #[.string x.id, .int .i64 x.no, .int .i64 x.ma, .int .i64 x.fe, .slice C x.n e2]] w (AddOut g m f n x w) := by
  have hal := (Below.refl w.heap.size w).alloc (Nat.le_refl _) (.cells #[.string x.id, .int .i64 x.no, .int .i64 x.ma, .int .i64 x.fe, .slice C x.n e2] 38)
  have HX := Lib.hid (Blk.new w 38 #[.string x.id, .int .i64 x.no, .int .i64 x.ma, .int .i64 x.fe, .slice C x.n e2])
  have HBX := Lib.hid hal
  have hWs : (w.alloc (.cells #[.string x.id, .int .i64 x.no, .int .i64 x.ma, .int .i64 x.fe, .slice C x.n e2] 38)).heap.size = w.heap.size + 1 := by simp
  have H := Lib.hid (h.keep hal)
  have HM := Lib.hid (h2.keep hal)
  have HSH := Lib.hid (ShareRow.keep h3 hal)
  have HF := Lib.hid hf
  have HG := Lib.hid hg
  have HFX := Lib.hid hx
  have hn2 : n ≤ maxLen := by unfold maxLen; omega
  have hxn : x.n ≤ 1048576 := hx.2.2
  obtain ⟨o1, q1⟩ : ∃ o, okMelts g m = o := ⟨_, rfl⟩
  obtain ⟨o2, q2⟩ : ∃ o, okBells f n = o := ⟨_, rfl⟩
  obtain ⟨o3, q3⟩ : ∃ o, bellV x = o := ⟨_, rfl⟩
  clear h h2 h3 hf hx hal hg
  go_enter Try.func11, Try.ntmps11
  go_wp2_with fail
  go_at_call 28
  generalize w.alloc (.cells #[.string x.id, .int .i64 x.no, .int .i64 x.ma, .int .i64 x.fe, .slice C x.n e2] 38) = W0 at *
  have HV1 := Lib.hid (show ∀ W, Below W0.heap.size W0 W → Calls Try.prog 32 #[.slice B m d] W (fun e w' => e = .returned (.bool o1) ∧ Below W.heap.size W w') from fun W hW => by
    have q := ValidMelts_calls B m d g W (HM.out.keep hW) HG.out hm hd
    rwa [show okMelts g m = o1 from q1] at q)
  have HV2 := Lib.hid (show ∀ W, Below W0.heap.size W0 W → Calls Try.prog 33 #[.slice A n c] W (fun e w' => e = .returned (.bool o2) ∧ Below W.heap.size W w') from fun W hW => by
    have q := ValidBells_calls A n c f W (H.out.keep hW) HF.out hn2
    rwa [show (bellsOk f n && decide ((n : Int) ≤ 24)) = o2 from q2] at q)
  have HV3 := Lib.hid (show ∀ W, Below W0.heap.size W0 W → Calls Try.prog 34 #[.agg #[.string x.id, .int .i64 x.no, .int .i64 x.ma, .int .i64 x.fe, .slice C x.n e2]] W (fun e w' => e = .returned (.bool o3) ∧ Below W.heap.size W w') from fun W hW => by
    have q := ValidBell_calls x.id x.no x.ma x.fe C x.n e2 x.ss x.ms W HFX.out.1 (ShareRow.keep HSH.out hW) HFX.out.2.1 hxn
    rwa [show bellB x.id x.no x.ma x.fe x.n x.ss x.ms = o3 from q3] at q)
  have Q1 := Lib.hid q1
  have Q2 := Lib.hid q2
  have Q3 := Lib.hid q3
  clear q1 q2 q3
  refine (bellSearch A n c f x.id W0 H.out hn (fun k W AK CK hk hb => addBell1_calls _ _ _ _ _ _ _ _ _)).mono ?_
  rintro e w1 ⟨⟨k, rfl, hkn, hhalf⟩, hb⟩
  have HH := Lib.hid hhalf
  have KK := Lib.hid hb
  obtain ⟨FD, hFD⟩ : ∃ FD, FD = (decide (k < n) && eqS (f k).id x.id) := ⟨_, rfl⟩
  rw [← hFD]
  have HFD := Lib.hid hFD
  clear hFD hhalf hb
  have x0 := ((HX.out.keep KK.out).cell 0).trans rfl; have x1 := ((HX.out.keep KK.out).cell 1).trans rfl; have x2 := ((HX.out.keep KK.out).cell 2).trans rfl; have x3 := ((HX.out.keep KK.out).cell 3).trans rfl; have x4 := ((HX.out.keep KK.out).cell 4).trans rfl
  go_wp2_with fail
  clear x0 x1 x2 x3 x4
  have hab : Below w1.heap.size w1 ((w1.alloc (.cells #[.string x.id, .int .i64 x.no, .int .i64 x.ma, .int .i64 x.fe, .slice C x.n e2] 38)).alloc (.cells #[.slice A n c, .slice (some ⟨w1.heap.size, 0, none⟩) 1 1] 30)) := ((Below.refl w1.heap.size w1).alloc (Nat.le_refl _) _).alloc (by simp) _
  have HAB := Lib.hid (KK.out.trans (hab.mono KK.out.size))
  clear hab
  go_at_call 31
  refine (concBells_calls A n c f x C e2 (w1.heap.size + 1) w1.heap.size _ (H.out.keep HAB.out) hn hnc (Blk.new2 _ _ _ _) ((Blk.new _ _ _).alloc _) (ShareRow.keep HSH.out HAB.out)).mono ?_
  rintro e w2 ⟨A2, c2, rfl, hrow, hb⟩
  have HMR := Lib.hid hrow
  have K2 := Lib.hid (HAB.out.trans (hb.mono HAB.out.size))
  clear KK HAB hb hrow
  have KK := K2
  clear K2
  have x0 := ((HX.out.keep KK.out).cell 0).trans rfl; have x1 := ((HX.out.keep KK.out).cell 1).trans rfl; have x2 := ((HX.out.keep KK.out).cell 2).trans rfl; have x3 := ((HX.out.keep KK.out).cell 3).trans rfl; have x4 := ((HX.out.keep KK.out).cell 4).trans rfl
  cases o1
  · have hR : adC g m f n x = 1 := by simp [adC, Q1.out]
    go_wp2_with (go_at_call 32; with_reducible refine (HV1.out _ KK.out).mono ?_; rintro e wk ⟨rfl, hb⟩; have HMR2 := Lib.hid (HMR.out.keep hb); have K2 := Lib.hid (KK.out.trans (hb.mono KK.out.size)); clear KK hb x0 x1 x2 x3 x4 HMR; have KK := K2; have HMR := HMR2; clear K2 HMR2; have x0 := ((HX.out.keep KK.out).cell 0).trans rfl; have x1 := ((HX.out.keep KK.out).cell 1).trans rfl; have x2 := ((HX.out.keep KK.out).cell 2).trans rfl; have x3 := ((HX.out.keep KK.out).cell 3).trans rfl; have x4 := ((HX.out.keep KK.out).cell 4).trans rfl)
    refine bodyPost_ret (v := .tuple #[.slice none 0 0, .int .i64 1]) (by simp [results, Try.results11, go_sem]) rfl ?_
    exact .inl ⟨by rw [hR]; decide, by rw [hR], HBX.out.trans (KK.out.mono (by omega))⟩
  · cases o2
    · have hR : adC g m f n x = 1 := by simp [adC, Q2.out]
      go_wp2_with (first | (go_at_call 32; with_reducible refine (HV1.out _ KK.out).mono ?_; rintro e wk ⟨rfl, hb⟩; have HMR2 := Lib.hid (HMR.out.keep hb); have K2 := Lib.hid (KK.out.trans (hb.mono KK.out.size)); clear KK hb x0 x1 x2 x3 x4 HMR; have KK := K2; have HMR := HMR2; clear K2 HMR2; have x0 := ((HX.out.keep KK.out).cell 0).trans rfl; have x1 := ((HX.out.keep KK.out).cell 1).trans rfl; have x2 := ((HX.out.keep KK.out).cell 2).trans rfl; have x3 := ((HX.out.keep KK.out).cell 3).trans rfl; have x4 := ((HX.out.keep KK.out).cell 4).trans rfl) | (go_at_call 33; with_reducible refine (HV2.out _ KK.out).mono ?_; rintro e wk ⟨rfl, hb⟩; have HMR2 := Lib.hid (HMR.out.keep hb); have K2 := Lib.hid (KK.out.trans (hb.mono KK.out.size)); clear KK hb x0 x1 x2 x3 x4 HMR; have KK := K2; have HMR := HMR2; clear K2 HMR2; have x0 := ((HX.out.keep KK.out).cell 0).trans rfl; have x1 := ((HX.out.keep KK.out).cell 1).trans rfl; have x2 := ((HX.out.keep KK.out).cell 2).trans rfl; have x3 := ((HX.out.keep KK.out).cell 3).trans rfl; have x4 := ((HX.out.keep KK.out).cell 4).trans rfl))
      refine bodyPost_ret (v := .tuple #[.slice none 0 0, .int .i64 1]) (by simp [results, Try.results11, go_sem]) rfl ?_
      exact .inl ⟨by rw [hR]; decide, by rw [hR], HBX.out.trans (KK.out.mono (by omega))⟩
    · cases o3
      · have hR : adC g m f n x = 1 := by simp [adC, Q3.out]
        go_wp2_with (first | (go_at_call 32; with_reducible refine (HV1.out _ KK.out).mono ?_; rintro e wk ⟨rfl, hb⟩; have HMR2 := Lib.hid (HMR.out.keep hb); have K2 := Lib.hid (KK.out.trans (hb.mono KK.out.size)); clear KK hb x0 x1 x2 x3 x4 HMR; have KK := K2; have HMR := HMR2; clear K2 HMR2; have x0 := ((HX.out.keep KK.out).cell 0).trans rfl; have x1 := ((HX.out.keep KK.out).cell 1).trans rfl; have x2 := ((HX.out.keep KK.out).cell 2).trans rfl; have x3 := ((HX.out.keep KK.out).cell 3).trans rfl; have x4 := ((HX.out.keep KK.out).cell 4).trans rfl) | (go_at_call 33; with_reducible refine (HV2.out _ KK.out).mono ?_; rintro e wk ⟨rfl, hb⟩; have HMR2 := Lib.hid (HMR.out.keep hb); have K2 := Lib.hid (KK.out.trans (hb.mono KK.out.size)); clear KK hb x0 x1 x2 x3 x4 HMR; have KK := K2; have HMR := HMR2; clear K2 HMR2; have x0 := ((HX.out.keep KK.out).cell 0).trans rfl; have x1 := ((HX.out.keep KK.out).cell 1).trans rfl; have x2 := ((HX.out.keep KK.out).cell 2).trans rfl; have x3 := ((HX.out.keep KK.out).cell 3).trans rfl; have x4 := ((HX.out.keep KK.out).cell 4).trans rfl) | (go_at_call 34; with_reducible refine (HV3.out _ KK.out).mono ?_; rintro e wk ⟨rfl, hb⟩; have HMR2 := Lib.hid (HMR.out.keep hb); have K2 := Lib.hid (KK.out.trans (hb.mono KK.out.size)); clear KK hb x0 x1 x2 x3 x4 HMR; have KK := K2; have HMR := HMR2; clear K2 HMR2; have x0 := ((HX.out.keep KK.out).cell 0).trans rfl; have x1 := ((HX.out.keep KK.out).cell 1).trans rfl; have x2 := ((HX.out.keep KK.out).cell 2).trans rfl; have x3 := ((HX.out.keep KK.out).cell 3).trans rfl; have x4 := ((HX.out.keep KK.out).cell 4).trans rfl))
        refine bodyPost_ret (v := .tuple #[.slice none 0 0, .int .i64 1]) (by simp [results, Try.results11, go_sem]) rfl ?_
        exact .inl ⟨by rw [hR]; decide, by rw [hR], HBX.out.trans (KK.out.mono (by omega))⟩
      · have hn24 : n ≤ 24 := by
          have := Q2.out
          unfold okBells at this
          simp only [Bool.and_eq_true, decide_eq_true_eq] at this
          omega
        have hfew := few_ins Q2.out Q3.out (Nat.le_refl n)
        have hxp := bellV_pos Q3.out
        have hfn : ∀ i, i < n + 1 → (insF f n x i).n ≤ 1048576 := insF_all (C := fun y => y.n ≤ 1048576) (fun i hi => (HF.out i hi).2.2) hxn (Nat.le_refl n)
        obtain ⟨o4, q4⟩ : ∃ o, (allKnown (fun q => (g q).id) m f n && knownB (fun q => (g q).id) m x) = o := ⟨_, rfl⟩
        obtain ⟨o5, q5⟩ : ∃ o, suffB g m (insF f (posA f x n) x) (n + 1) = o := ⟨_, rfl⟩
        have hpn := (posA_spec f x n).1
        have HV4 := Lib.hid (show ∀ W, BellRow W A2 (n + 1) (insF f n x) → Below W0.heap.size W0 W → Calls Try.prog 35 #[.slice B m d, .slice A2 (n + 1) c2] W (fun e w' => e = .returned (.bool o4) ∧ Below W.heap.size W w') from fun W hr hW => by
          have q := haveMelts_calls B m d g A2 (n + 1) c2 (insF f n x) W (HM.out.keep hW) hm (okM_srt Q1.out) hr (by omega) hfn
          rwa [allKnown_ins, q4] at q)
        have HV5 := Lib.hid (show ∀ W, BellRow W A2 (n + 1) (insF f n x) → Below W0.heap.size W0 W → Calls Try.prog 36 #[.slice B m d, .slice A2 (n + 1) c2] W (fun e w' => e = .returned (.bool o5) ∧ Below W.heap.size W w') from fun W hr hW => by
          have q := suffice_calls B m d g A2 (n + 1) c2 (insF f n x) W (HM.out.keep hW) hm hr hfew (fun i hi => okM_ma Q1.out hi)
          rwa [suffB_ins (Nat.le_refl n) hpn, q5] at q)
        have HHAS : Hid (hasB f x n = FD) := Lib.hid ((HH.out.found (okB_srt Q2.out)).symm.trans HFD.out.symm)
        have hadc : Hid (adC g m f n x = if o4 = false then 3 else if o5 = false then 6 else if FD = true then 4 else if n = 24 then 5 else 0) := Lib.hid (by
          unfold adC
          rw [Q1.out, Q2.out, Q3.out, q4, q5, HHAS.out]
          rfl)
        clear q4 q5 hfew
        cases o4
        · have hR : adC g m f n x = 3 := by rw [hadc.out]; rfl
          go_wp2_with (first | (go_at_call 32; with_reducible refine (HV1.out _ KK.out).mono ?_; rintro e wk ⟨rfl, hb⟩; have HMR2 := Lib.hid (HMR.out.keep hb); have K2 := Lib.hid (KK.out.trans (hb.mono KK.out.size)); clear KK hb x0 x1 x2 x3 x4 HMR; have KK := K2; have HMR := HMR2; clear K2 HMR2; have x0 := ((HX.out.keep KK.out).cell 0).trans rfl; have x1 := ((HX.out.keep KK.out).cell 1).trans rfl; have x2 := ((HX.out.keep KK.out).cell 2).trans rfl; have x3 := ((HX.out.keep KK.out).cell 3).trans rfl; have x4 := ((HX.out.keep KK.out).cell 4).trans rfl) | (go_at_call 33; with_reducible refine (HV2.out _ KK.out).mono ?_; rintro e wk ⟨rfl, hb⟩; have HMR2 := Lib.hid (HMR.out.keep hb); have K2 := Lib.hid (KK.out.trans (hb.mono KK.out.size)); clear KK hb x0 x1 x2 x3 x4 HMR; have KK := K2; have HMR := HMR2; clear K2 HMR2; have x0 := ((HX.out.keep KK.out).cell 0).trans rfl; have x1 := ((HX.out.keep KK.out).cell 1).trans rfl; have x2 := ((HX.out.keep KK.out).cell 2).trans rfl; have x3 := ((HX.out.keep KK.out).cell 3).trans rfl; have x4 := ((HX.out.keep KK.out).cell 4).trans rfl) | (go_at_call 34; with_reducible refine (HV3.out _ KK.out).mono ?_; rintro e wk ⟨rfl, hb⟩; have HMR2 := Lib.hid (HMR.out.keep hb); have K2 := Lib.hid (KK.out.trans (hb.mono KK.out.size)); clear KK hb x0 x1 x2 x3 x4 HMR; have KK := K2; have HMR := HMR2; clear K2 HMR2; have x0 := ((HX.out.keep KK.out).cell 0).trans rfl; have x1 := ((HX.out.keep KK.out).cell 1).trans rfl; have x2 := ((HX.out.keep KK.out).cell 2).trans rfl; have x3 := ((HX.out.keep KK.out).cell 3).trans rfl; have x4 := ((HX.out.keep KK.out).cell 4).trans rfl) | (go_at_call 35; with_reducible refine (HV4.out _ HMR.out KK.out).mono ?_; rintro e wk ⟨rfl, hb⟩; have HMR2 := Lib.hid (HMR.out.keep hb); have K2 := Lib.hid (KK.out.trans (hb.mono KK.out.size)); clear KK hb x0 x1 x2 x3 x4 HMR; have KK := K2; have HMR := HMR2; clear K2 HMR2; have x0 := ((HX.out.keep KK.out).cell 0).trans rfl; have x1 := ((HX.out.keep KK.out).cell 1).trans rfl; have x2 := ((HX.out.keep KK.out).cell 2).trans rfl; have x3 := ((HX.out.keep KK.out).cell 3).trans rfl; have x4 := ((HX.out.keep KK.out).cell 4).trans rfl))
          refine bodyPost_ret (v := .tuple #[.slice none 0 0, .int .i64 3]) (by simp [results, Try.results11, go_sem]) rfl ?_
          exact .inl ⟨by rw [hR]; decide, by rw [hR], HBX.out.trans (KK.out.mono (by omega))⟩
        · cases o5
          · have hR : adC g m f n x = 6 := by rw [hadc.out]; rfl
            go_wp2_with (first | (go_at_call 32; with_reducible refine (HV1.out _ KK.out).mono ?_; rintro e wk ⟨rfl, hb⟩; have HMR2 := Lib.hid (HMR.out.keep hb); have K2 := Lib.hid (KK.out.trans (hb.mono KK.out.size)); clear KK hb x0 x1 x2 x3 x4 HMR; have KK := K2; have HMR := HMR2; clear K2 HMR2; have x0 := ((HX.out.keep KK.out).cell 0).trans rfl; have x1 := ((HX.out.keep KK.out).cell 1).trans rfl; have x2 := ((HX.out.keep KK.out).cell 2).trans rfl; have x3 := ((HX.out.keep KK.out).cell 3).trans rfl; have x4 := ((HX.out.keep KK.out).cell 4).trans rfl) | (go_at_call 33; with_reducible refine (HV2.out _ KK.out).mono ?_; rintro e wk ⟨rfl, hb⟩; have HMR2 := Lib.hid (HMR.out.keep hb); have K2 := Lib.hid (KK.out.trans (hb.mono KK.out.size)); clear KK hb x0 x1 x2 x3 x4 HMR; have KK := K2; have HMR := HMR2; clear K2 HMR2; have x0 := ((HX.out.keep KK.out).cell 0).trans rfl; have x1 := ((HX.out.keep KK.out).cell 1).trans rfl; have x2 := ((HX.out.keep KK.out).cell 2).trans rfl; have x3 := ((HX.out.keep KK.out).cell 3).trans rfl; have x4 := ((HX.out.keep KK.out).cell 4).trans rfl) | (go_at_call 34; with_reducible refine (HV3.out _ KK.out).mono ?_; rintro e wk ⟨rfl, hb⟩; have HMR2 := Lib.hid (HMR.out.keep hb); have K2 := Lib.hid (KK.out.trans (hb.mono KK.out.size)); clear KK hb x0 x1 x2 x3 x4 HMR; have KK := K2; have HMR := HMR2; clear K2 HMR2; have x0 := ((HX.out.keep KK.out).cell 0).trans rfl; have x1 := ((HX.out.keep KK.out).cell 1).trans rfl; have x2 := ((HX.out.keep KK.out).cell 2).trans rfl; have x3 := ((HX.out.keep KK.out).cell 3).trans rfl; have x4 := ((HX.out.keep KK.out).cell 4).trans rfl) | (go_at_call 35; with_reducible refine (HV4.out _ HMR.out KK.out).mono ?_; rintro e wk ⟨rfl, hb⟩; have HMR2 := Lib.hid (HMR.out.keep hb); have K2 := Lib.hid (KK.out.trans (hb.mono KK.out.size)); clear KK hb x0 x1 x2 x3 x4 HMR; have KK := K2; have HMR := HMR2; clear K2 HMR2; have x0 := ((HX.out.keep KK.out).cell 0).trans rfl; have x1 := ((HX.out.keep KK.out).cell 1).trans rfl; have x2 := ((HX.out.keep KK.out).cell 2).trans rfl; have x3 := ((HX.out.keep KK.out).cell 3).trans rfl; have x4 := ((HX.out.keep KK.out).cell 4).trans rfl) | (go_at_call 36; with_reducible refine (HV5.out _ HMR.out KK.out).mono ?_; rintro e wk ⟨rfl, hb⟩; have HMR2 := Lib.hid (HMR.out.keep hb); have K2 := Lib.hid (KK.out.trans (hb.mono KK.out.size)); clear KK hb x0 x1 x2 x3 x4 HMR; have KK := K2; have HMR := HMR2; clear K2 HMR2; have x0 := ((HX.out.keep KK.out).cell 0).trans rfl; have x1 := ((HX.out.keep KK.out).cell 1).trans rfl; have x2 := ((HX.out.keep KK.out).cell 2).trans rfl; have x3 := ((HX.out.keep KK.out).cell 3).trans rfl; have x4 := ((HX.out.keep KK.out).cell 4).trans rfl))
            refine bodyPost_ret (v := .tuple #[.slice none 0 0, .int .i64 6]) (by simp [results, Try.results11, go_sem]) rfl ?_
            exact .inl ⟨by rw [hR]; decide, by rw [hR], HBX.out.trans (KK.out.mono (by omega))⟩
          · cases FD
            · by_cases z : n = 24
              · have hR : adC g m f n x = 5 := by rw [hadc.out, if_neg (by decide), if_neg (by decide), if_neg (by decide), if_pos z]
                have z2 : (24 : Int) ≤ n := by omega
                clear z
                go_wp2_with (first | (go_at_call 32; with_reducible refine (HV1.out _ KK.out).mono ?_; rintro e wk ⟨rfl, hb⟩; have HMR2 := Lib.hid (HMR.out.keep hb); have K2 := Lib.hid (KK.out.trans (hb.mono KK.out.size)); clear KK hb x0 x1 x2 x3 x4 HMR; have KK := K2; have HMR := HMR2; clear K2 HMR2; have x0 := ((HX.out.keep KK.out).cell 0).trans rfl; have x1 := ((HX.out.keep KK.out).cell 1).trans rfl; have x2 := ((HX.out.keep KK.out).cell 2).trans rfl; have x3 := ((HX.out.keep KK.out).cell 3).trans rfl; have x4 := ((HX.out.keep KK.out).cell 4).trans rfl) | (go_at_call 33; with_reducible refine (HV2.out _ KK.out).mono ?_; rintro e wk ⟨rfl, hb⟩; have HMR2 := Lib.hid (HMR.out.keep hb); have K2 := Lib.hid (KK.out.trans (hb.mono KK.out.size)); clear KK hb x0 x1 x2 x3 x4 HMR; have KK := K2; have HMR := HMR2; clear K2 HMR2; have x0 := ((HX.out.keep KK.out).cell 0).trans rfl; have x1 := ((HX.out.keep KK.out).cell 1).trans rfl; have x2 := ((HX.out.keep KK.out).cell 2).trans rfl; have x3 := ((HX.out.keep KK.out).cell 3).trans rfl; have x4 := ((HX.out.keep KK.out).cell 4).trans rfl) | (go_at_call 34; with_reducible refine (HV3.out _ KK.out).mono ?_; rintro e wk ⟨rfl, hb⟩; have HMR2 := Lib.hid (HMR.out.keep hb); have K2 := Lib.hid (KK.out.trans (hb.mono KK.out.size)); clear KK hb x0 x1 x2 x3 x4 HMR; have KK := K2; have HMR := HMR2; clear K2 HMR2; have x0 := ((HX.out.keep KK.out).cell 0).trans rfl; have x1 := ((HX.out.keep KK.out).cell 1).trans rfl; have x2 := ((HX.out.keep KK.out).cell 2).trans rfl; have x3 := ((HX.out.keep KK.out).cell 3).trans rfl; have x4 := ((HX.out.keep KK.out).cell 4).trans rfl) | (go_at_call 35; with_reducible refine (HV4.out _ HMR.out KK.out).mono ?_; rintro e wk ⟨rfl, hb⟩; have HMR2 := Lib.hid (HMR.out.keep hb); have K2 := Lib.hid (KK.out.trans (hb.mono KK.out.size)); clear KK hb x0 x1 x2 x3 x4 HMR; have KK := K2; have HMR := HMR2; clear K2 HMR2; have x0 := ((HX.out.keep KK.out).cell 0).trans rfl; have x1 := ((HX.out.keep KK.out).cell 1).trans rfl; have x2 := ((HX.out.keep KK.out).cell 2).trans rfl; have x3 := ((HX.out.keep KK.out).cell 3).trans rfl; have x4 := ((HX.out.keep KK.out).cell 4).trans rfl) | (go_at_call 36; with_reducible refine (HV5.out _ HMR.out KK.out).mono ?_; rintro e wk ⟨rfl, hb⟩; have HMR2 := Lib.hid (HMR.out.keep hb); have K2 := Lib.hid (KK.out.trans (hb.mono KK.out.size)); clear KK hb x0 x1 x2 x3 x4 HMR; have KK := K2; have HMR := HMR2; clear K2 HMR2; have x0 := ((HX.out.keep KK.out).cell 0).trans rfl; have x1 := ((HX.out.keep KK.out).cell 1).trans rfl; have x2 := ((HX.out.keep KK.out).cell 2).trans rfl; have x3 := ((HX.out.keep KK.out).cell 3).trans rfl; have x4 := ((HX.out.keep KK.out).cell 4).trans rfl))
                refine bodyPost_ret (v := .tuple #[.slice none 0 0, .int .i64 5]) (by simp [results, Try.results11, go_sem]) rfl ?_
                exact .inl ⟨by rw [hR]; decide, by rw [hR], HBX.out.trans (KK.out.mono (by omega))⟩
              · have hR : adC g m f n x = 0 := by rw [hadc.out, if_neg (by decide), if_neg (by decide), if_neg (by decide), if_neg z]
                have z2 : ¬ (24 : Int) ≤ n := by omega
                have hposk : Hid (posA f x n = k) := Lib.hid (pos_half HH.out (okB_srt Q2.out) hkn (by rw [HHAS.out]))
                have HPN := Lib.hid (show ∀ i, i < n → 0 < (f i).n ∧ (f i).n ≤ 1048576 from fun i hi => ⟨bellV_pos (okB_V Q2.out hi), (HF.out i hi).2.2⟩)
                clear z
                go_wp2_with (first | (go_at_call 32; with_reducible refine (HV1.out _ KK.out).mono ?_; rintro e wk ⟨rfl, hb⟩; have HMR2 := Lib.hid (HMR.out.keep hb); have K2 := Lib.hid (KK.out.trans (hb.mono KK.out.size)); clear KK hb x0 x1 x2 x3 x4 HMR; have KK := K2; have HMR := HMR2; clear K2 HMR2; have x0 := ((HX.out.keep KK.out).cell 0).trans rfl; have x1 := ((HX.out.keep KK.out).cell 1).trans rfl; have x2 := ((HX.out.keep KK.out).cell 2).trans rfl; have x3 := ((HX.out.keep KK.out).cell 3).trans rfl; have x4 := ((HX.out.keep KK.out).cell 4).trans rfl) | (go_at_call 33; with_reducible refine (HV2.out _ KK.out).mono ?_; rintro e wk ⟨rfl, hb⟩; have HMR2 := Lib.hid (HMR.out.keep hb); have K2 := Lib.hid (KK.out.trans (hb.mono KK.out.size)); clear KK hb x0 x1 x2 x3 x4 HMR; have KK := K2; have HMR := HMR2; clear K2 HMR2; have x0 := ((HX.out.keep KK.out).cell 0).trans rfl; have x1 := ((HX.out.keep KK.out).cell 1).trans rfl; have x2 := ((HX.out.keep KK.out).cell 2).trans rfl; have x3 := ((HX.out.keep KK.out).cell 3).trans rfl; have x4 := ((HX.out.keep KK.out).cell 4).trans rfl) | (go_at_call 34; with_reducible refine (HV3.out _ KK.out).mono ?_; rintro e wk ⟨rfl, hb⟩; have HMR2 := Lib.hid (HMR.out.keep hb); have K2 := Lib.hid (KK.out.trans (hb.mono KK.out.size)); clear KK hb x0 x1 x2 x3 x4 HMR; have KK := K2; have HMR := HMR2; clear K2 HMR2; have x0 := ((HX.out.keep KK.out).cell 0).trans rfl; have x1 := ((HX.out.keep KK.out).cell 1).trans rfl; have x2 := ((HX.out.keep KK.out).cell 2).trans rfl; have x3 := ((HX.out.keep KK.out).cell 3).trans rfl; have x4 := ((HX.out.keep KK.out).cell 4).trans rfl) | (go_at_call 35; with_reducible refine (HV4.out _ HMR.out KK.out).mono ?_; rintro e wk ⟨rfl, hb⟩; have HMR2 := Lib.hid (HMR.out.keep hb); have K2 := Lib.hid (KK.out.trans (hb.mono KK.out.size)); clear KK hb x0 x1 x2 x3 x4 HMR; have KK := K2; have HMR := HMR2; clear K2 HMR2; have x0 := ((HX.out.keep KK.out).cell 0).trans rfl; have x1 := ((HX.out.keep KK.out).cell 1).trans rfl; have x2 := ((HX.out.keep KK.out).cell 2).trans rfl; have x3 := ((HX.out.keep KK.out).cell 3).trans rfl; have x4 := ((HX.out.keep KK.out).cell 4).trans rfl) | (go_at_call 36; with_reducible refine (HV5.out _ HMR.out KK.out).mono ?_; rintro e wk ⟨rfl, hb⟩; have HMR2 := Lib.hid (HMR.out.keep hb); have K2 := Lib.hid (KK.out.trans (hb.mono KK.out.size)); clear KK hb x0 x1 x2 x3 x4 HMR; have KK := K2; have HMR := HMR2; clear K2 HMR2; have x0 := ((HX.out.keep KK.out).cell 0).trans rfl; have x1 := ((HX.out.keep KK.out).cell 1).trans rfl; have x2 := ((HX.out.keep KK.out).cell 2).trans rfl; have x3 := ((HX.out.keep KK.out).cell 3).trans rfl; have x4 := ((HX.out.keep KK.out).cell 4).trans rfl))
                have HR := Lib.hid hR
                have H9 := Lib.hid (H.out.keep KK.out)
                have S9 := Lib.hid (ShareRow.keep HSH.out KK.out)
                have X9 := Lib.hid (HX.out.keep KK.out)
                clear x0 x1 x2 x3 x4 hR
                have E0 := Lib.hid ((X9.out.cell 0).trans rfl)
                have E1 := Lib.hid ((X9.out.cell 1).trans rfl)
                have E2 := Lib.hid ((X9.out.cell 2).trans rfl)
                have E3 := Lib.hid ((X9.out.cell 3).trans rfl)
                have E4 := Lib.hid ((X9.out.cell 4).trans rfl)
                clear z2 HMR HV4 HV5 HV1 HV2 HV3 X9
                refine wp_gen (fun W0 hW0 => ?_)
                have s0_ : Below wk.heap.size wk W0 := by rw [hW0]; exact Below.refl _ _
                have s1_ : W0.cell? ⟨w.heap.size, 0, none⟩ = some (.string x.id) := by rw [hW0]; exact E0.out
                have s2_ : W0.cell? ⟨w.heap.size, 1, none⟩ = some (.int .i64 x.no) := by rw [hW0]; exact E1.out
                have s3_ : W0.cell? ⟨w.heap.size, 2, none⟩ = some (.int .i64 x.ma) := by rw [hW0]; exact E2.out
                have s4_ : W0.cell? ⟨w.heap.size, 3, none⟩ = some (.int .i64 x.fe) := by rw [hW0]; exact E3.out
                have s5_ : W0.cell? ⟨w.heap.size, 4, none⟩ = some (.slice C x.n e2) := by rw [hW0]; exact E4.out
                skip
                clear hW0
                refine wp_region_held_drew (S := fun w' => Below wk.heap.size wk w' ∧ w'.cell? ⟨w.heap.size, 0, none⟩ = some (.string x.id) ∧ w'.cell? ⟨w.heap.size, 1, none⟩ = some (.int .i64 x.no) ∧ w'.cell? ⟨w.heap.size, 2, none⟩ = some (.int .i64 x.ma) ∧ w'.cell? ⟨w.heap.size, 3, none⟩ = some (.int .i64 x.fe) ∧ w'.cell? ⟨w.heap.size, 4, none⟩ = some (.slice C x.n e2)) (by kernel_rfl) ?_ (fun hHeld => ?_)
                · exact ⟨s0_.drew, s1_, s2_, s3_, s4_, s5_⟩
                clear s0_ s1_ s2_ s3_ s4_ s5_
                refine take_yes (i := 0) (d := 53) (v := ?_) _ rfl rfl (by kernel_rfl) (by kernel_rfl) (by kernel_rfl) (fun _ _ _ _ h => h) (by rfl) ?_ (by assumption) ?_
                rotate_left 1
                · ((intro w hSw; (try dsimp only at hSw); go_simp) <;> (try with_reducible rfl))
                (try simp only [Act.put, List.setIfInBounds_toArray, List.set_cons_zero, List.set_cons_succ])
                refine take_yes (i := 2) (d := 55) (v := ?_) _ rfl rfl (by kernel_rfl) (by kernel_rfl) (by kernel_rfl) (fun _ _ _ _ h => h) (by rfl) ?_ (by assumption) ?_
                rotate_left 1
                · ((intro w hSw; (try dsimp only at hSw); go_simp) <;> (try with_reducible rfl))
                (try simp only [Act.put, List.setIfInBounds_toArray, List.set_cons_zero, List.set_cons_succ])
                refine take_yes (i := 3) (d := 56) (v := ?_) _ rfl rfl (by kernel_rfl) (by kernel_rfl) (by kernel_rfl) (fun _ _ _ _ h => h) (by rfl) ?_ (by assumption) ?_
                rotate_left 1
                · ((intro w hSw; (try dsimp only at hSw); go_simp) <;> (try with_reducible rfl))
                (try simp only [Act.put, List.setIfInBounds_toArray, List.set_cons_zero, List.set_cons_succ])
                refine wpAnyH_ready (rs := [1, 4]) (by kernel_rfl) (by simp) ?_; refine AllReadyH.cons rfl (fun K hK => ?_) (AllReadyH.cons rfl (fun K hK => ?_) AllReadyH.nil)
                · go_simp; go_at_call 38; refine (copyAll_calls wk.heap.size A n c f _ (H9.out.keep (And.left hHeld)) HPN.out hn (And.left hHeld).size).mono ?_; rintro e wd ⟨A1, c1, xs, rfl, hC, hb⟩; refine hK.out _ _ (by obtain ⟨x0_, x1_, x2_, x3_, x4_, x5_⟩ := hHeld; exact ⟨x0_.trans (hb.mono x0_.size), cell_keep hb x1_, cell_keep hb x2_, cell_keep hb x3_, cell_keep hb x4_, cell_keep hb x5_⟩) (fun hHeld2 => ?_); (try replace hnb := Lib.hid (hnb.out.keep hb)); clear hK K hHeld hb; have hHeld := hHeld2; clear hHeld2; (try simp only [Act.put, List.setIfInBounds_toArray, List.set_cons_zero, List.set_cons_succ])
                  (refine wpAnyH_ready (rs := [4]) (by kernel_rfl) (by simp) ?_; refine AllReadyH.cons rfl (fun K hK => ?_) AllReadyH.nil; go_simp; refine hK.out _ _ (by obtain ⟨x0_, x1_, x2_, x3_, x4_, x5_⟩ := hHeld; exact ⟨x0_.trans (((Below.refl _ _).alloc (Nat.le_refl _) _).mono x0_.size), cell_keep ((Below.refl _ _).alloc (Nat.le_refl _) _) x1_, cell_keep ((Below.refl _ _).alloc (Nat.le_refl _) _) x2_, cell_keep ((Below.refl _ _).alloc (Nat.le_refl _) _) x3_, cell_keep ((Below.refl _ _).alloc (Nat.le_refl _) _) x4_, cell_keep ((Below.refl _ _).alloc (Nat.le_refl _) _) x5_⟩) (fun hHeld2 => ?_); clear hK K; have hOld := hHeld; clear hHeld; have hHeld := hHeld2; clear hHeld2; (first | have hnb := Lib.hid (new_heldA hHeld) | have hnb := Lib.hid (new_heldAD hHeld)); (first | have hab := ab_heldA hHeld | have hab := ab_heldAD hHeld); (try replace hC := hC.keep hab); (try have hGv := Lib.hid (one_lt hO.out)); (try replace hO := Lib.hid (hO.out.keep hab)); (try clear d0 d1 d2 d3 d4); clear hab; (try simp only [Act.put, List.setIfInBounds_toArray, List.set_cons_zero, List.set_cons_succ]))
                  (refine wpAnyH_ready (rs := [5]) (by kernel_rfl) (by simp) ?_; refine AllReadyH.cons rfl (fun K hK => ?_) AllReadyH.nil; go_simp; go_at_call 38; refine (copyOne_calls wk.heap.size _ n xs f _ x C e2 _ hxp hxn hC hnb.out (ShareRow.keep S9.out (And.left hHeld))).mono ?_; rintro e wd ⟨g2, c2, G, c3, rfl, ⟨d0, d1, d2, d3, d4⟩, hO1, hb⟩; have hO : Hid (OneOut wk.heap.size (.slice A1 n c1) n xs f x G c3 wd) := Lib.hid hO1; clear hO1; refine hK.out _ _ (by obtain ⟨x0_, x1_, x2_, x3_, x4_, x5_⟩ := hHeld; exact ⟨x0_.trans (hb.mono x0_.size), cell_keep hb x1_, cell_keep hb x2_, cell_keep hb x3_, cell_keep hb x4_, cell_keep hb x5_⟩) (fun hHeld2 => ?_); (try replace hnb := Lib.hid (hnb.out.keep hb)); clear hK K hHeld hb; have hHeld := hHeld2; clear hHeld2; (try simp only [Act.put, List.setIfInBounds_toArray, List.set_cons_zero, List.set_cons_succ]))
                  refine take_yes (i := 6) (d := 59) (v := ?_) _ rfl rfl (by kernel_rfl) (by kernel_rfl) (by kernel_rfl) (fun _ _ _ _ h => h) (by rfl) ?_ (by assumption) ?_
                  rotate_left 1
                  · ((intro w hSw; (try dsimp only at hSw); go_simp) <;> (try with_reducible rfl))
                  (try simp only [Act.put, List.setIfInBounds_toArray, List.set_cons_zero, List.set_cons_succ])
                  (refine wpAnyH_ready (rs := [7]) (by kernel_rfl) (by simp) ?_; refine AllReadyH.cons rfl (fun K hK => ?_) AllReadyH.nil; go_simp; refine hK.out _ _ (by assumption) (fun hHeld2 => ?_); clear hK K hHeld; have hHeld := hHeld2; clear hHeld2; (try simp only [Act.put, List.setIfInBounds_toArray, List.set_cons_zero, List.set_cons_succ]))
                  (refine wpAnyH_ready (rs := [8]) (by kernel_rfl) (by simp) ?_; refine AllReadyH.cons rfl (fun K hK => ?_) AllReadyH.nil; go_simp; refine hK.out _ _ (by obtain ⟨x0_, x1_, x2_, x3_, x4_, x5_⟩ := hHeld; exact ⟨x0_.trans (((Below.refl _ _).alloc (Nat.le_refl _) _).mono x0_.size), cell_keep ((Below.refl _ _).alloc (Nat.le_refl _) _) x1_, cell_keep ((Below.refl _ _).alloc (Nat.le_refl _) _) x2_, cell_keep ((Below.refl _ _).alloc (Nat.le_refl _) _) x3_, cell_keep ((Below.refl _ _).alloc (Nat.le_refl _) _) x4_, cell_keep ((Below.refl _ _).alloc (Nat.le_refl _) _) x5_⟩) (fun hHeld2 => ?_); clear hK K; have hOld := hHeld; clear hHeld; have hHeld := hHeld2; clear hHeld2; (first | have hnb := Lib.hid (new_heldA hHeld) | have hnb := Lib.hid (new_heldAD hHeld)); (first | have hab := ab_heldA hHeld | have hab := ab_heldAD hHeld); (try replace hC := hC.keep hab); (try have hGv := Lib.hid (one_lt hO.out)); (try replace hO := Lib.hid (hO.out.keep hab)); (try clear d0 d1 d2 d3 d4); clear hab; (try simp only [Act.put, List.setIfInBounds_toArray, List.set_cons_zero, List.set_cons_succ]))
                  (refine wpAnyH_ready (rs := [9]) (by kernel_rfl) (by simp) ?_; refine AllReadyH.cons rfl (fun K hK => ?_) AllReadyH.nil; go_simp; go_at_call 37; refine (ins_last hO.out hGv.out hnb.out hkn hn (And.left hHeld).size).mono ?_; rintro e wd ⟨A9, c9, G9, rfl, ⟨hI1, hG91⟩, hb⟩; have hI := Lib.hid hI1; have hG9 : w.heap.size ≤ G9 := Nat.le_trans (Nat.le_trans HBX.out.size KK.out.size) hG91; clear hI1; refine hK.out _ _ (by obtain ⟨x0_, x1_, x2_, x3_, x4_, x5_⟩ := hHeld; exact ⟨x0_.trans hb, cell_keep (x0_.trans hb) E0.out, cell_keep (x0_.trans hb) E1.out, cell_keep (x0_.trans hb) E2.out, cell_keep (x0_.trans hb) E3.out, cell_keep (x0_.trans hb) E4.out⟩) (fun hHeld2 => ?_); (try replace hnb := Lib.hid (hnb.out.keep hb)); clear hK K hHeld hb; have hHeld := hHeld2; clear hHeld2; (try simp only [Act.put, List.setIfInBounds_toArray, List.set_cons_zero, List.set_cons_succ]))
                  refine take_yes (i := 10) (d := 6) (v := ?_) _ rfl rfl (by kernel_rfl) (by kernel_rfl) (by kernel_rfl) (fun _ _ _ _ h => h) (by rfl) ?_ (by assumption) ?_
                  rotate_left 1
                  · ((intro w hSw; (try dsimp only at hSw); go_simp) <;> (try with_reducible rfl))
                  (try simp only [Act.put, List.setIfInBounds_toArray, List.set_cons_zero, List.set_cons_succ])
                  refine take_yes (i := 11) (d := 7) (v := ?_) _ rfl rfl (by kernel_rfl) (by kernel_rfl) (by kernel_rfl) (fun _ _ _ _ h => h) (by rfl) ?_ (by assumption) ?_
                  rotate_left 1
                  · ((intro w hSw; (try dsimp only at hSw); go_simp) <;> (try with_reducible rfl))
                  (try simp only [Act.put, List.setIfInBounds_toArray, List.set_cons_zero, List.set_cons_succ])
                  refine wpAnyH_done (by kernel_rfl) ?_ _
                  obtain ⟨z0, z1, z2, z3, z4, z5⟩ := hHeld
                  have HE := Lib.hid z0
                  clear z0 z1 z2 z3 z4 z5
                  go_wp2_with fail
                  refine bodyPost_ret (v := .tuple #[.slice A9 (n + 1) c9, .int .i64 0]) (by simp [results, Try.results11, go_sem]) rfl ?_
                  exact .inr ⟨HR.out, A9, c9, G9, rfl, by rw [hposk.out]; exact hI.out.lower (by have := KK.out.size; omega), hG9, HBX.out.trans ((KK.out.trans (HE.out.mono KK.out.size)).mono (by omega))⟩
                · go_simp; refine hK.out _ _ (by obtain ⟨x0_, x1_, x2_, x3_, x4_, x5_⟩ := hHeld; exact ⟨x0_.trans (((Below.refl _ _).alloc (Nat.le_refl _) _).mono x0_.size), cell_keep ((Below.refl _ _).alloc (Nat.le_refl _) _) x1_, cell_keep ((Below.refl _ _).alloc (Nat.le_refl _) _) x2_, cell_keep ((Below.refl _ _).alloc (Nat.le_refl _) _) x3_, cell_keep ((Below.refl _ _).alloc (Nat.le_refl _) _) x4_, cell_keep ((Below.refl _ _).alloc (Nat.le_refl _) _) x5_⟩) (fun hHeld2 => ?_); clear hK K; have hOld := hHeld; clear hHeld; have hHeld := hHeld2; clear hHeld2; (first | have hnb := Lib.hid (new_heldA hHeld) | have hnb := Lib.hid (new_heldAD hHeld)); (first | have hab := ab_heldA hHeld | have hab := ab_heldAD hHeld); (try replace hC := hC.keep hab); (try have hGv := Lib.hid (one_lt hO.out)); (try replace hO := Lib.hid (hO.out.keep hab)); (try clear d0 d1 d2 d3 d4); clear hab; (try simp only [Act.put, List.setIfInBounds_toArray, List.set_cons_zero, List.set_cons_succ])
                  (refine wpAnyH_ready (rs := [1]) (by kernel_rfl) (by simp) ?_; refine AllReadyH.cons rfl (fun K hK => ?_) AllReadyH.nil; go_simp; go_at_call 38; refine (copyAll_calls wk.heap.size A n c f _ (H9.out.keep (And.left hHeld)) HPN.out hn (And.left hHeld).size).mono ?_; rintro e wd ⟨A1, c1, xs, rfl, hC, hb⟩; refine hK.out _ _ (by obtain ⟨x0_, x1_, x2_, x3_, x4_, x5_⟩ := hHeld; exact ⟨x0_.trans (hb.mono x0_.size), cell_keep hb x1_, cell_keep hb x2_, cell_keep hb x3_, cell_keep hb x4_, cell_keep hb x5_⟩) (fun hHeld2 => ?_); (try replace hnb := Lib.hid (hnb.out.keep hb)); clear hK K hHeld hb; have hHeld := hHeld2; clear hHeld2; (try simp only [Act.put, List.setIfInBounds_toArray, List.set_cons_zero, List.set_cons_succ]))
                  (refine wpAnyH_ready (rs := [5]) (by kernel_rfl) (by simp) ?_; refine AllReadyH.cons rfl (fun K hK => ?_) AllReadyH.nil; go_simp; go_at_call 38; refine (copyOne_calls wk.heap.size _ n xs f _ x C e2 _ hxp hxn hC hnb.out (ShareRow.keep S9.out (And.left hHeld))).mono ?_; rintro e wd ⟨g2, c2, G, c3, rfl, ⟨d0, d1, d2, d3, d4⟩, hO1, hb⟩; have hO : Hid (OneOut wk.heap.size (.slice A1 n c1) n xs f x G c3 wd) := Lib.hid hO1; clear hO1; refine hK.out _ _ (by obtain ⟨x0_, x1_, x2_, x3_, x4_, x5_⟩ := hHeld; exact ⟨x0_.trans (hb.mono x0_.size), cell_keep hb x1_, cell_keep hb x2_, cell_keep hb x3_, cell_keep hb x4_, cell_keep hb x5_⟩) (fun hHeld2 => ?_); (try replace hnb := Lib.hid (hnb.out.keep hb)); clear hK K hHeld hb; have hHeld := hHeld2; clear hHeld2; (try simp only [Act.put, List.setIfInBounds_toArray, List.set_cons_zero, List.set_cons_succ]))
                  refine take_yes (i := 6) (d := 59) (v := ?_) _ rfl rfl (by kernel_rfl) (by kernel_rfl) (by kernel_rfl) (fun _ _ _ _ h => h) (by rfl) ?_ (by assumption) ?_
                  rotate_left 1
                  · ((intro w hSw; (try dsimp only at hSw); go_simp) <;> (try with_reducible rfl))
                  (try simp only [Act.put, List.setIfInBounds_toArray, List.set_cons_zero, List.set_cons_succ])
                  (refine wpAnyH_ready (rs := [7]) (by kernel_rfl) (by simp) ?_; refine AllReadyH.cons rfl (fun K hK => ?_) AllReadyH.nil; go_simp; refine hK.out _ _ (by assumption) (fun hHeld2 => ?_); clear hK K hHeld; have hHeld := hHeld2; clear hHeld2; (try simp only [Act.put, List.setIfInBounds_toArray, List.set_cons_zero, List.set_cons_succ]))
                  (refine wpAnyH_ready (rs := [8]) (by kernel_rfl) (by simp) ?_; refine AllReadyH.cons rfl (fun K hK => ?_) AllReadyH.nil; go_simp; refine hK.out _ _ (by obtain ⟨x0_, x1_, x2_, x3_, x4_, x5_⟩ := hHeld; exact ⟨x0_.trans (((Below.refl _ _).alloc (Nat.le_refl _) _).mono x0_.size), cell_keep ((Below.refl _ _).alloc (Nat.le_refl _) _) x1_, cell_keep ((Below.refl _ _).alloc (Nat.le_refl _) _) x2_, cell_keep ((Below.refl _ _).alloc (Nat.le_refl _) _) x3_, cell_keep ((Below.refl _ _).alloc (Nat.le_refl _) _) x4_, cell_keep ((Below.refl _ _).alloc (Nat.le_refl _) _) x5_⟩) (fun hHeld2 => ?_); clear hK K; have hOld := hHeld; clear hHeld; have hHeld := hHeld2; clear hHeld2; (first | have hnb := Lib.hid (new_heldA hHeld) | have hnb := Lib.hid (new_heldAD hHeld)); (first | have hab := ab_heldA hHeld | have hab := ab_heldAD hHeld); (try replace hC := hC.keep hab); (try have hGv := Lib.hid (one_lt hO.out)); (try replace hO := Lib.hid (hO.out.keep hab)); (try clear d0 d1 d2 d3 d4); clear hab; (try simp only [Act.put, List.setIfInBounds_toArray, List.set_cons_zero, List.set_cons_succ]))
                  (refine wpAnyH_ready (rs := [9]) (by kernel_rfl) (by simp) ?_; refine AllReadyH.cons rfl (fun K hK => ?_) AllReadyH.nil; go_simp; go_at_call 37; refine (ins_last hO.out hGv.out hnb.out hkn hn (And.left hHeld).size).mono ?_; rintro e wd ⟨A9, c9, G9, rfl, ⟨hI1, hG91⟩, hb⟩; have hI := Lib.hid hI1; have hG9 : w.heap.size ≤ G9 := Nat.le_trans (Nat.le_trans HBX.out.size KK.out.size) hG91; clear hI1; refine hK.out _ _ (by obtain ⟨x0_, x1_, x2_, x3_, x4_, x5_⟩ := hHeld; exact ⟨x0_.trans hb, cell_keep (x0_.trans hb) E0.out, cell_keep (x0_.trans hb) E1.out, cell_keep (x0_.trans hb) E2.out, cell_keep (x0_.trans hb) E3.out, cell_keep (x0_.trans hb) E4.out⟩) (fun hHeld2 => ?_); (try replace hnb := Lib.hid (hnb.out.keep hb)); clear hK K hHeld hb; have hHeld := hHeld2; clear hHeld2; (try simp only [Act.put, List.setIfInBounds_toArray, List.set_cons_zero, List.set_cons_succ]))
                  refine take_yes (i := 10) (d := 6) (v := ?_) _ rfl rfl (by kernel_rfl) (by kernel_rfl) (by kernel_rfl) (fun _ _ _ _ h => h) (by rfl) ?_ (by assumption) ?_
                  rotate_left 1
                  · ((intro w hSw; (try dsimp only at hSw); go_simp) <;> (try with_reducible rfl))
                  (try simp only [Act.put, List.setIfInBounds_toArray, List.set_cons_zero, List.set_cons_succ])
                  refine take_yes (i := 11) (d := 7) (v := ?_) _ rfl rfl (by kernel_rfl) (by kernel_rfl) (by kernel_rfl) (fun _ _ _ _ h => h) (by rfl) ?_ (by assumption) ?_
                  rotate_left 1
                  · ((intro w hSw; (try dsimp only at hSw); go_simp) <;> (try with_reducible rfl))
                  (try simp only [Act.put, List.setIfInBounds_toArray, List.set_cons_zero, List.set_cons_succ])
                  refine wpAnyH_done (by kernel_rfl) ?_ _
                  obtain ⟨z0, z1, z2, z3, z4, z5⟩ := hHeld
                  have HE := Lib.hid z0
                  clear z0 z1 z2 z3 z4 z5
                  go_wp2_with fail
                  refine bodyPost_ret (v := .tuple #[.slice A9 (n + 1) c9, .int .i64 0]) (by simp [results, Try.results11, go_sem]) rfl ?_
                  exact .inr ⟨HR.out, A9, c9, G9, rfl, by rw [hposk.out]; exact hI.out.lower (by have := KK.out.size; omega), hG9, HBX.out.trans ((KK.out.trans (HE.out.mono KK.out.size)).mono (by omega))⟩
            · have hR : adC g m f n x = 4 := by rw [hadc.out, if_neg (by decide), if_neg (by decide), if_pos rfl]
              go_wp2_with (first | (go_at_call 32; with_reducible refine (HV1.out _ KK.out).mono ?_; rintro e wk ⟨rfl, hb⟩; have HMR2 := Lib.hid (HMR.out.keep hb); have K2 := Lib.hid (KK.out.trans (hb.mono KK.out.size)); clear KK hb x0 x1 x2 x3 x4 HMR; have KK := K2; have HMR := HMR2; clear K2 HMR2; have x0 := ((HX.out.keep KK.out).cell 0).trans rfl; have x1 := ((HX.out.keep KK.out).cell 1).trans rfl; have x2 := ((HX.out.keep KK.out).cell 2).trans rfl; have x3 := ((HX.out.keep KK.out).cell 3).trans rfl; have x4 := ((HX.out.keep KK.out).cell 4).trans rfl) | (go_at_call 33; with_reducible refine (HV2.out _ KK.out).mono ?_; rintro e wk ⟨rfl, hb⟩; have HMR2 := Lib.hid (HMR.out.keep hb); have K2 := Lib.hid (KK.out.trans (hb.mono KK.out.size)); clear KK hb x0 x1 x2 x3 x4 HMR; have KK := K2; have HMR := HMR2; clear K2 HMR2; have x0 := ((HX.out.keep KK.out).cell 0).trans rfl; have x1 := ((HX.out.keep KK.out).cell 1).trans rfl; have x2 := ((HX.out.keep KK.out).cell 2).trans rfl; have x3 := ((HX.out.keep KK.out).cell 3).trans rfl; have x4 := ((HX.out.keep KK.out).cell 4).trans rfl) | (go_at_call 34; with_reducible refine (HV3.out _ KK.out).mono ?_; rintro e wk ⟨rfl, hb⟩; have HMR2 := Lib.hid (HMR.out.keep hb); have K2 := Lib.hid (KK.out.trans (hb.mono KK.out.size)); clear KK hb x0 x1 x2 x3 x4 HMR; have KK := K2; have HMR := HMR2; clear K2 HMR2; have x0 := ((HX.out.keep KK.out).cell 0).trans rfl; have x1 := ((HX.out.keep KK.out).cell 1).trans rfl; have x2 := ((HX.out.keep KK.out).cell 2).trans rfl; have x3 := ((HX.out.keep KK.out).cell 3).trans rfl; have x4 := ((HX.out.keep KK.out).cell 4).trans rfl) | (go_at_call 35; with_reducible refine (HV4.out _ HMR.out KK.out).mono ?_; rintro e wk ⟨rfl, hb⟩; have HMR2 := Lib.hid (HMR.out.keep hb); have K2 := Lib.hid (KK.out.trans (hb.mono KK.out.size)); clear KK hb x0 x1 x2 x3 x4 HMR; have KK := K2; have HMR := HMR2; clear K2 HMR2; have x0 := ((HX.out.keep KK.out).cell 0).trans rfl; have x1 := ((HX.out.keep KK.out).cell 1).trans rfl; have x2 := ((HX.out.keep KK.out).cell 2).trans rfl; have x3 := ((HX.out.keep KK.out).cell 3).trans rfl; have x4 := ((HX.out.keep KK.out).cell 4).trans rfl) | (go_at_call 36; with_reducible refine (HV5.out _ HMR.out KK.out).mono ?_; rintro e wk ⟨rfl, hb⟩; have HMR2 := Lib.hid (HMR.out.keep hb); have K2 := Lib.hid (KK.out.trans (hb.mono KK.out.size)); clear KK hb x0 x1 x2 x3 x4 HMR; have KK := K2; have HMR := HMR2; clear K2 HMR2; have x0 := ((HX.out.keep KK.out).cell 0).trans rfl; have x1 := ((HX.out.keep KK.out).cell 1).trans rfl; have x2 := ((HX.out.keep KK.out).cell 2).trans rfl; have x3 := ((HX.out.keep KK.out).cell 3).trans rfl; have x4 := ((HX.out.keep KK.out).cell 4).trans rfl))
              refine bodyPost_ret (v := .tuple #[.slice none 0 0, .int .i64 4]) (by simp [results, Try.results11, go_sem]) rfl ?_
              exact .inl ⟨by rw [hR]; decide, by rw [hR], HBX.out.trans (KK.out.mono (by omega))⟩
end Go.Proofs.Yticnpibkpfpojaa
