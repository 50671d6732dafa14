/- A bell added to a list, in the reference. -/
import Derived.Test.YticnpibkpfpojaaGreatDoorAddB
import Derived.Deep.DeepCutAuto
namespace Go.Proofs.YticnpibkpfpojaaGreatDoor
set_option linter.unusedVariables false
open Go.RowKit

theorem bellAt_blk {w : World} {G : Nat} {x : BellV} {C : Option Addr} {e2 : Nat} (h : Blk w G 28 #[.string x.id, .int .i64 x.no, .int .i64 x.ma, .int .i64 x.fe, .slice C x.n e2]) (h3 : ShareRow w C x.n x.ss x.ms) : BellAt w G 0 x := ⟨C, e2, (h.cell 0).trans rfl, (h.cell 1).trans rfl, (h.cell 2).trans rfl, (h.cell 3).trans rfl, (h.cell 4).trans rfl, h3⟩
theorem BellOwn.lower {w : World} {A : Option Addr} {n G lo lo2 : Nat} {f : Nat → BellV} (h : BellOwn w A n f G lo) (hl : lo2 ≤ lo) : BellOwn w A n f G lo2 := fun hn => by
  obtain ⟨hA, h1, arr, hk, hs, gs, cs, hx, hap⟩ := h hn
  exact ⟨hA, by omega, arr, hk, hs, gs, cs, fun i hi => by
    obtain ⟨a, a4, a5, a6, a7⟩ := hx i hi
    exact ⟨a, a4, by omega, a6, a7⟩, hap⟩
theorem gt_less (a b : ByteArray) : (!Op.bytesLess a.toList b.toList && !(a.toList == b.toList)) = Op.bytesLess b.toList a.toList := by
  have h := ltS_total a b
  unfold ltS eqS at h
  rw [← Bool.not_or, h]
  simp
theorem bellV_pos {x : BellV} (h : bellV x = true) : 1 ≤ x.n := by
  unfold bellV bellB at h
  simp only [Bool.and_eq_true, decide_eq_true_eq] at h
  obtain ⟨-, -, -, h3, h4, h5, -⟩ := h
  omega
theorem okB_V {f : Nat → BellV} {n i : Nat} (h : okBells f n = true) (hi : i < n) : bellV (f i) = true := by
  unfold okBells bellsOk at h
  simp only [Bool.and_eq_true] at h
  have h1 := allB_of h.1 i hi
  unfold goodAt at h1
  simp only [Bool.and_eq_true] at h1
  exact h1.1
/-- a longer list has room for all its bells -/
def CapOut (n : Nat) (e : Ending) : Prop := ∀ A c o, e = .returned (.tuple #[.slice A (n + 1) c, o]) → n + 1 ≤ c
theorem capNone (n : Nat) (v : Value) : CapOut n (.returned (.tuple #[.slice none 0 0, v])) := fun A c o h => by
  injection h with h
  injection h with h
  have h1 := congrArg (fun a : Array Value => a[0]?) h
  simp at h1
theorem own_cap {w : World} {base e size n c : Nat} {A : Option Addr} {xs : List Value} (h : w.ownsRow base e size (.slice A n c) n xs) : n ≤ c := by
  rcases h.2 with ⟨q, z⟩ | ⟨g, cap, cur, q, -, -, hc, -⟩
  · omega
  · simp only [Value.slice.injEq, true_and] at q
    omega
def cntB (p k : Nat) : Nat := if p < k then k + 1 else k
set_option maxRecDepth 20000 in
set_option maxHeartbeats 8000000 in
theorem sAddBell_cap (B : Option Addr) (m d : Nat) (g : Nat → MeltV) (A : Option Addr) (n c : Nat) (f : Nat → BellV) (x : BellV) (C : Option Addr) (e2 : Nat) (w : World) (h2 : MeltRow w B m g) (hm : m ≤ 1048576) (hg : ∀ i, i < m → FineM (g i)) (h : BellRow w A n f) (hn : n ≤ 1048576) (hf : ∀ i, i < n → Fine (f i)) (h3 : ShareRow w C x.n x.ss x.ms) (hx : Fine x) :
    Calls Tryz.prog 74 #[.slice B m d, .slice A n c, .agg #[.string x.id, .int .i64 x.no, .int .i64 x.ma, .int .i64 x.fe, .slice C x.n e2]] w fun e w' => AddOut g m f n x w e w' ∧ CapOut n e := by
  obtain ⟨i0, hi, hz0, hz1, hz2⟩ := info_parts BellI_info
  have hal := (Below.refl w.heap.size w).alloc (Nat.le_refl _) (.cells #[.string x.id, .int .i64 x.no, .int .i64 x.ma, .int .i64 x.fe, .slice C x.n e2] 28)
  have HX := Lib.hid (Blk.new w 28 #[.string x.id, .int .i64 x.no, .int .i64 x.ma, .int .i64 x.fe, .slice C x.n e2])
  have HB0 := Lib.hid hal
  have hWs : (w.alloc (.cells #[.string x.id, .int .i64 x.no, .int .i64 x.ma, .int .i64 x.fe, .slice C x.n e2] 28)).heap.size = w.heap.size + 1 := by simp
  have HA := Lib.hid (l18Ask_calls B m d g A n c f _ (h2.keep hal) hm hg (h.keep hal) hn hf)
  have H := Lib.hid (h.keep hal)
  have HM := Lib.hid (h2.keep hal)
  have HSH := Lib.hid (h3.below hal (Nat.le_refl _))
  have HF := Lib.hid hf
  have HFX := Lib.hid hx
  obtain ⟨o1, q1⟩ : ∃ o, (okMelts g m && okBells f n) = o := ⟨_, rfl⟩
  obtain ⟨o2, q2⟩ : ∃ o, allKnown (fun q => (g q).id) m f n = o := ⟨_, rfl⟩
  obtain ⟨o3, q3⟩ : ∃ o, bellV x = o := ⟨_, rfl⟩
  obtain ⟨o4, q4⟩ : ∃ o, knownB (fun q => (g q).id) m x = o := ⟨_, rfl⟩
  clear h h2 h3 hf hx hal hg
  go_enter Tryz.func74, Tryz.ntmps74
  go_wp2_with fail
  generalize w.alloc (.cells #[.string x.id, .int .i64 x.no, .int .i64 x.ma, .int .i64 x.fe, .slice C x.n e2] 28) = W0 at *
  go_at_call 100
  with_reducible refine HA.out.mono ?_
  rintro e w1 ⟨rfl, nd, rfl⟩
  have HB1 := Lib.hid (below_drewN (Below.refl W0.heap.size W0) nd)
  have HBX := Lib.hid (HB0.out.trans (HB1.out.mono (by omega)))
  have HX1 := Lib.hid (HX.out.drewN nd)
  clear HX HA
  generalize W0.drewN nd = W1 at *
  cases o1
  · have hR : adC g m f n x = 1 := by simp [adC, q1]
    rw [show askC g m f n = 1 by simp only [askC, q1]; rfl]
    go_wp2
    refine bodyPost_ret (v := .tuple #[.slice none 0 0, .int .i64 1]) (by simp [results, Tryz.results74, go_sem]) rfl ?_
    exact ⟨.inl ⟨by rw [hR]; decide, by rw [hR], HBX.out⟩, capNone _ _⟩
  · have HC3 := Lib.hid (sbell_calls w.heap.size 0 x.id x.no x.ma x.fe C x.n e2 x.ss x.ms W1 HFX.out.1 (ShareRow.keep HSH.out HB1.out) HFX.out.2.1 HFX.out.2.2 ((HX1.out.cell 0).trans rfl) ((HX1.out.cell 1).trans rfl) ((HX1.out.cell 2).trans rfl) ((HX1.out.cell 3).trans rfl) ((HX1.out.cell 4).trans rfl))
    rw [show bellB x.id x.no x.ma x.fe x.n x.ss x.ms = o3 from q3] at HC3
    have hask : askC g m f n = if o2 = true then 0 else 3 := by simp only [askC, q1, q2]; rfl
    cases o3
    · have hR : adC g m f n x = 1 := by simp [adC, q3]
      rw [hask]
      cases o2
      · rw [if_neg (by decide)]
        go_wp2_with fail
        go_at_call 70
        refine HC3.out.mono ?_
        rintro e w2 ⟨rfl, nd2, rfl⟩
        go_wp2
        refine bodyPost_ret (v := .tuple #[.slice none 0 0, .int .i64 1]) (by simp [results, Tryz.results74, go_sem]) rfl ?_
        exact ⟨.inl ⟨by rw [hR]; decide, by rw [hR], (below_drewN HBX.out nd2)⟩, capNone _ _⟩
      · rw [if_pos rfl]
        go_wp2_with fail
        go_at_call 70
        refine HC3.out.mono ?_
        rintro e w2 ⟨rfl, nd2, rfl⟩
        go_wp2
        refine bodyPost_ret (v := .tuple #[.slice none 0 0, .int .i64 1]) (by simp [results, Tryz.results74, go_sem]) rfl ?_
        exact ⟨.inl ⟨by rw [hR]; decide, by rw [hR], (below_drewN HBX.out nd2)⟩, capNone _ _⟩
    · cases o2
      · have hR : adC g m f n x = 3 := by simp [adC, q1, q2, q3]
        rw [hask, if_neg (by decide)]
        go_wp2_with fail
        go_at_call 70
        refine HC3.out.mono ?_
        rintro e w2 ⟨rfl, nd2, rfl⟩
        go_wp2
        refine bodyPost_ret (v := .tuple #[.slice none 0 0, .int .i64 3]) (by simp [results, Tryz.results74, go_sem]) rfl ?_
        exact ⟨.inl ⟨by rw [hR]; decide, by rw [hR], (below_drewN HBX.out nd2)⟩, capNone _ _⟩
      · rw [hask, if_pos rfl]
        go_wp2_with fail
        go_at_call 70
        refine HC3.out.mono ?_
        rintro e w2 ⟨rfl, nd2, rfl⟩
        have HB2 := Lib.hid (below_drewN HB1.out nd2)
        have HBX2 := Lib.hid (below_drewN HBX.out nd2)
        have HX2 := Lib.hid (HX1.out.drewN nd2)
        clear HC3 hask HX1 HBX HB1
        generalize W1.drewN nd2 = W2 at *
        have HC4 := Lib.hid (l18Known_calls B m d g w.heap.size 0 x W2 (HM.out.keep HB2.out) hm (bellAt_blk HX2.out (ShareRow.keep HSH.out HB2.out)) HFX.out.2.2)
        rw [q4] at HC4
        go_wp2_with fail
        go_at_call 101
        refine HC4.out.mono ?_
        rintro e w3 ⟨rfl, rfl⟩
        clear HC4
        cases o4
        · have hR : adC g m f n x = 3 := by simp [adC, q1, q2, q3, q4]
          go_wp2
          refine bodyPost_ret (v := .tuple #[.slice none 0 0, .int .i64 3]) (by simp [results, Tryz.results74, go_sem]) rfl ?_
          exact ⟨.inl ⟨by rw [hR]; decide, by rw [hR], HBX2.out⟩, capNone _ _⟩
        · have hfl : ∀ p, p ≤ n → Few (insF f p x) (n + 1) := fun p hp => few_ins (by simp only [Bool.and_eq_true] at q1; exact q1.2) q3 hp
          obtain ⟨P, hP⟩ : ∃ P, P = posA f x n := ⟨_, rfl⟩
          obtain ⟨p1, p2, p3⟩ := posA_spec f x n
          have hadc : adC g m f n x = if suffB g m (insF f P x) (n + 1) = false then 6 else if hasB f x n = true then 4 else if n = 24 then 5 else 0 := by simp [adC, q1, q2, q3, q4, hP]
          rw [← hP] at p1 p2 p3
          have HADC := Lib.hid hadc
          have HPP := Lib.hid hP
          have HFL := Lib.hid (hfl P p1)
          have HP2 := Lib.hid p2
          have HP3 := Lib.hid p3
          have H2 := Lib.hid (H.out.keep HB2.out)
          have HM2 := Lib.hid (HM.out.keep HB2.out)
          have HSH2 := Lib.hid (ShareRow.keep HSH.out HB2.out)
          have HNF := Lib.hid (show ∀ i, i < n → 0 < (f i).n ∧ (f i).n ≤ 1048576 from fun i hi => by
            have hb : bellV (f i) = true := okB_V (by simp only [Bool.and_eq_true] at q1; exact q1.2) hi
            have := bellV_pos hb
            have := (HF.out i hi).2.2
            omega)
          have hxn : 0 < x.n := by have := bellV_pos q3; omega
          have hxm : x.n ≤ 1048576 := HFX.out.2.2
          have hwW : w.heap.size < W2.heap.size := HX2.out.lt
          clear hadc hP hfl p2 p3 H HM HSH HB2
          have HL0 : Hid ((W2.alloc (.cells #[] 28)).ownsRow W2.heap.size 28 5 (.slice (some ⟨W2.heap.size, 0, none⟩) 0 0) 0 []) := Lib.hid (World.ownsRow_lit (base := W2.heap.size) (e := 28) (size := 5) W2 #[] 0 (Nat.le_refl _) (by unfold maxLen; omega) rfl)
          have HBA := Lib.hid ((Below.refl W2.heap.size W2).alloc (Nat.le_refl _) (.cells #[] 28))
          go_wp2
          go_loopw [9, 10, 11, 12] (fun v e dn i wr => ∃ (k : Nat) (xs : List Value), k ≤ n ∧ i = .int .i64 k ∧ e = .bool (hasB f x k) ∧ dn = .bool (decide (P < k)) ∧ Hid (wr.ownsRow W2.heap.size 28 5 v (cntB P k) xs) ∧ Hid (BellsX wr W2.heap.size wr.heap.size xs (cntB P k) (insF f P x)) ∧ Below W2.heap.size W2 wr) (fun _ _ _ i _ => n - (intOf i).toNat)
          case atStart => exact ⟨0, [], by omega, rfl, rfl, by simp, HL0, Lib.hid (BellsX.nil _ _ _ _), HBA.out⟩
          case round =>
            obtain ⟨k, xs, hk, rfl, rfl, rfl, hown, hbx, hbr⟩ := hrel
            have hbs := hbr.size
            by_cases hlt : k < n
            · obtain ⟨b, o, rfl, hrow⟩ := H2.out (by omega)
              have HR := Lib.hid hrow
              obtain ⟨AK, CK, c0, -⟩ := (hrow k hlt).keep hbr
              have x0 := ((HX2.out.keep hbr).cell 0).trans rfl
              clear hrow
              go_wp2_with fail
              go_cut [10] (fun s wx => s = .bool (hasB f x (k + 1)) ∧ ∃ q, wx = wr.drewN q)
              case first =>
                have HE1 := Lib.hid (show hasB f x (k + 1) = (hasB f x k || ((f k).id.toList == x.id.toList)) from anyB_succ _ _)
                generalize hasB f x k = E at *
                cases E
                · go_quiet (fail)
                  go_wp2_with fail
                  go_meet
                  exact ⟨by rw [HE1.out]; simp, _, rfl⟩
                · go_quiet (fail)
                  go_wp2_with fail
                  go_meet
                  exact ⟨by rw [HE1.out]; rfl, _, rfl⟩
              case rest =>
                obtain ⟨rfl, q, rfl⟩ := hcut
                clear hbs
                replace hown := Lib.hid (own_keep hown.out (below_drewN (Below.refl _ wr) q))
                replace hbx := Lib.hid (hbx.out.keep (below_drewN (Below.refl _ wr) q))
                replace hbr := below_drewN hbr q
                have hzz : (wr.drewN q).heap.size = wr.heap.size := by simp
                rw [← hzz] at hbx
                clear hzz
                generalize wr.drewN q = wr at *
                obtain ⟨AK, CK, c0, -⟩ := (HR.out k hlt).keep hbr
                have x0 := ((HX2.out.keep hbr).cell 0).trans rfl
                go_wp2_with fail
                go_cut [11, 58] (fun dn s wx => dn = .bool (decide (P < k)) ∧ s = .bool (decide (P = k)) ∧ ∃ q, wx = wr.drewN q)
                case first =>
                  rcases Nat.lt_trichotomy P k with z | z | z
                  · have hz : Hid (decide (P = k) = false ∧ decide (P < k) = true) := Lib.hid ⟨decide_eq_false (by omega), decide_eq_true z⟩
                    rw [decide_eq_true z]
                    go_quiet (fail)
                    go_wp2_with fail
                    go_meet
                    exact ⟨by rw [hz.out.2], (by rw [hz.out.1]; try (rw [gt_less, hl])), _, rfl⟩
                  · have hz : Hid (decide (P = k) = true ∧ decide (P < k) = false) := Lib.hid ⟨decide_eq_true z, decide_eq_false (by omega)⟩
                    rw [decide_eq_false (show ¬ P < k by omega)]
                    have hl : Op.bytesLess x.id.toList (f k).id.toList = true := by rw [← z]; exact HP3.out (by omega)
                    clear z
                    go_quiet (fail)
                    go_wp2_with fail
                    go_meet
                    exact ⟨by rw [hz.out.2], (by rw [hz.out.1]; try (rw [gt_less, hl])), _, rfl⟩
                  · have hz : Hid (decide (P = k) = false ∧ decide (P < k) = false) := Lib.hid ⟨decide_eq_false (by omega), decide_eq_false (by omega)⟩
                    rw [decide_eq_false (show ¬ P < k by omega)]
                    have hl : Op.bytesLess x.id.toList (f k).id.toList = false := HP2.out k z
                    clear z
                    go_quiet (fail)
                    go_wp2_with fail
                    go_meet
                    exact ⟨by rw [hz.out.2], (by rw [hz.out.1]; try (rw [gt_less, hl])), _, rfl⟩
                case rest =>
                obtain ⟨rfl, rfl, q, rfl⟩ := hcut
                clear c0 x0
                replace hown := Lib.hid (own_keep hown.out (below_drewN (Below.refl _ wr) q))
                replace hbx := Lib.hid (hbx.out.keep (below_drewN (Below.refl _ wr) q))
                replace hbr := below_drewN hbr q
                have hzz : (wr.drewN q).heap.size = wr.heap.size := by simp
                rw [← hzz] at hbx
                clear hzz
                generalize wr.drewN q = wr at *
                go_upto_if 58 with (fail)
                go_cut [9, 11] (fun v2 dn wx => ∃ (M : Nat) (xs2 : List Value), Hid (M + 1 = cntB P (k + 1)) ∧ M ≤ k + 1 ∧ Hid (insF f P x M = f k) ∧ dn = .bool (decide (P < k + 1)) ∧ Hid (wx.ownsRow W2.heap.size 28 5 v2 M xs2) ∧ Hid (BellsX wx W2.heap.size wx.heap.size xs2 M (insF f P x)) ∧ Below W2.heap.size W2 wx)
                case first =>
                  rcases Nat.lt_trichotomy P k with z | z | z
                  · have hc1 : cntB P k = k + 1 := if_pos z
                    rw [hc1] at hown hbx
                    rw [decide_eq_true z, decide_eq_false (show ¬ P = k by omega)]
                    have hrel2 : Hid (cntB P (k + 1) = k + 1 + 1 ∧ insF f P x (k + 1) = f k ∧ P < k + 1) := Lib.hid ⟨if_pos (by omega), insF_hi (by omega), by omega⟩
                    go_wp2_with fail
                    go_meet
                    exact ⟨k + 1, xs, Lib.hid hrel2.out.1.symm, by omega, Lib.hid hrel2.out.2.1, by rw [decide_eq_true hrel2.out.2.2], hown, hbx, hbr⟩
                  · have hc1 : cntB P k = k := if_neg (by omega)
                    rw [hc1] at hown hbx
                    rw [decide_eq_false (show ¬ P < k by omega), decide_eq_true z]
                    have hrel2 : Hid (cntB P (k + 1) = k + 1 + 1 ∧ insF f P x (k + 1) = f k ∧ P < k + 1) := Lib.hid ⟨if_pos (by omega), insF_hi (by omega), by omega⟩
                    have hxk : Hid (insF f P x k = x) := Lib.hid (by rw [← z]; exact insF_at _ _ _)
                    clear hc1 z
                    go_wp2_with fail
                    go_at_call 102
                    refine (l18Own_calls w.heap.size 0 x wr (bellAt_blk (HX2.out.keep hbr) (ShareRow.keep HSH2.out hbr)) hxn hxm).mono ?_
                    rintro e w1 ⟨G, c9, rfl, hb, g1, g2, hso⟩
                    obtain ⟨pu1, pu2, pu3⟩ := push (c := c9) hown.out hbx.out hbr hbr.size (Nat.le_refl _) hb hso g1 g2 hxk.out
                    have PU1 := Lib.hid pu1
                    have PU2 := Lib.hid pu2
                    have PU3 := Lib.hid pu3
                    have hlim : k ≤ 1048577 := by omega
                    have hlim2 : W2.heap.size ≤ w1.heap.size := Nat.le_trans hbr.size hb.size
                    clear hb hso pu1 pu2 pu3 hown hbx hbr g1 g2
                    go_wp2_with (at_builtin; refine wpList_append_own _ rfl _ _ 25 rfl W2.heap.size 28 i0 (.agg #[.string ⟨#[]⟩, .int .i64 0, .int .i64 0, .int .i64 0, .slice none 0 0]) 5 64 Tryz.underlying25 hi hz0 hz1 hz2 rfl (by decide) _ _ _ rfl PU1.out ⟨w1.heap.size, 0, none⟩ 1 1 (bellC (x) (.slice (some ⟨G, 0, none⟩) (x).n c9)) rfl rfl PU2.out (fun u hu => by simp [bellC] at hu; rcases hu with rfl | rfl | rfl | rfl | rfl <;> rfl) (by unfold maxLen; omega) (by omega) (by simp; omega) ?_; intro v9 w9 hown' hgrow _; refine Hid.out ?_)
                    refine Lib.hid ?_
                    obtain ⟨hbx9, hbr, hbs⟩ := PU3.out w9 hgrow
                    have hown := Lib.hid hown'
                    have hbx := Lib.hid hbx9
                    clear hown' hgrow hbx9 PU1 PU2 PU3
                    go_wp2_with fail
                    go_meet
                    exact ⟨k + 1, _, Lib.hid hrel2.out.1.symm, by omega, Lib.hid hrel2.out.2.1, by rw [decide_eq_true hrel2.out.2.2], hown, hbx, hbr⟩
                  · have hc1 : cntB P k = k := if_neg (by omega)
                    rw [hc1] at hown hbx
                    rw [decide_eq_false (show ¬ P < k by omega), decide_eq_false (show ¬ P = k by omega)]
                    have hrel2 : Hid (cntB P (k + 1) = k + 1 ∧ insF f P x k = f k ∧ ¬ P < k + 1) := Lib.hid ⟨if_neg (by omega), insF_lo z, by omega⟩
                    clear hc1
                    go_wp2_with fail
                    go_meet
                    exact ⟨k, xs, Lib.hid hrel2.out.1.symm, by omega, Lib.hid hrel2.out.2.1, by rw [decide_eq_false hrel2.out.2.2], hown, hbx, hbr⟩
                case rest =>
                  clear hown hbx hbr
                  obtain ⟨M, xs2, hM, hMk, hMx, rfl, hown, hbx, hbr⟩ := hcut
                  obtain ⟨hp1, hp2⟩ := HNF.out k hlt
                  have HBE := Lib.hid ((HR.out k hlt).keep hbr)
                  go_wp2_with fail
                  go_at_call 102
                  refine (l18Own_calls b (o + k * 5) (f k) wc HBE.out hp1 hp2).mono ?_
                  rintro e w1 ⟨G, c9, rfl, hb, g1, g2, hso⟩
                  obtain ⟨pu1, pu2, pu3⟩ := push (c := c9) hown.out hbx.out hbr hbr.size (Nat.le_refl _) hb hso g1 g2 hMx.out
                  have PU1 := Lib.hid pu1
                  have PU2 := Lib.hid pu2
                  have PU3 := Lib.hid pu3
                  have hlim : M ≤ 1048577 := by omega
                  have hlim2 : W2.heap.size ≤ w1.heap.size := Nat.le_trans hbr.size hb.size
                  clear hb hso pu1 pu2 pu3 hown hbx hbr g1 g2
                  go_wp2_with (at_builtin; refine wpList_append_own _ rfl _ _ 25 rfl W2.heap.size 28 i0 (.agg #[.string ⟨#[]⟩, .int .i64 0, .int .i64 0, .int .i64 0, .slice none 0 0]) 5 64 Tryz.underlying25 hi hz0 hz1 hz2 rfl (by decide) _ _ _ rfl PU1.out ⟨w1.heap.size, 0, none⟩ 1 1 (bellC (f k) (.slice (some ⟨G, 0, none⟩) (f k).n c9)) rfl rfl PU2.out (fun u hu => by simp [bellC] at hu; rcases hu with rfl | rfl | rfl | rfl | rfl <;> rfl) (by unfold maxLen; omega) (by omega) (by simp; omega) ?_; intro v9 w9 hown' hgrow _; refine Hid.out ?_)
                  refine Lib.hid ?_
                  obtain ⟨hbx9, hbr, hbs⟩ := PU3.out w9 hgrow
                  have hown := Lib.hid hown'
                  have hbx := Lib.hid hbx9
                  clear hown' hgrow hbx9 PU1 PU2 PU3
                  go_wp2
                  go_roundw
                  case rel => exact ⟨k + 1, _, by omega, by go_num, rfl, rfl, by rw [← hM.out]; exact hown, by rw [← hM.out]; exact hbx, hbr⟩
                  case measure => simp [intOf]; omega
            · obtain rfl : k = n := by omega
              clear hbs
              go_upto_if 71 with (fail)
              go_cut [9, 11] (fun v2 dn wx => dn = .bool (decide (P < k)) ∧ ∃ (xs2 : List Value), Hid (wx.ownsRow W2.heap.size 28 5 v2 (k + 1) xs2) ∧ Hid (BellsX wx W2.heap.size wx.heap.size xs2 (k + 1) (insF f P x)) ∧ Below W2.heap.size W2 wx)
              case first =>
                by_cases z : P < k
                · have hc1 : cntB P k = k + 1 := if_pos z
                  rw [hc1] at hown hbx
                  have hz := Lib.hid (decide_eq_true z)
                  rw [decide_eq_true z]
                  clear hc1
                  go_wp2_with fail
                  go_meet
                  exact ⟨by rw [hz.out], xs, hown, hbx, hbr⟩
                · have hc1 : cntB P k = k := if_neg z
                  rw [hc1] at hown hbx
                  have hz := Lib.hid (decide_eq_false z)
                  rw [decide_eq_false z]
                  have hxk : Hid (insF f P x k = x) := Lib.hid (by rw [show P = k by omega]; exact insF_at _ _ _)
                  clear hc1 z
                  go_wp2_with fail
                  go_at_call 102
                  refine (l18Own_calls w.heap.size 0 x wr (bellAt_blk (HX2.out.keep hbr) (ShareRow.keep HSH2.out hbr)) hxn hxm).mono ?_
                  rintro e w1 ⟨G, c9, rfl, hb, g1, g2, hso⟩
                  obtain ⟨pu1, pu2, pu3⟩ := push (c := c9) hown.out hbx.out hbr hbr.size (Nat.le_refl _) hb hso g1 g2 hxk.out
                  have PU1 := Lib.hid pu1
                  have PU2 := Lib.hid pu2
                  have PU3 := Lib.hid pu3
                  have hlim : k ≤ 1048577 := by omega
                  have hlim2 : W2.heap.size ≤ w1.heap.size := Nat.le_trans hbr.size hb.size
                  clear hb hso pu1 pu2 pu3 hown hbx hbr g1 g2
                  go_wp2_with (at_builtin; refine wpList_append_own _ rfl _ _ 25 rfl W2.heap.size 28 i0 (.agg #[.string ⟨#[]⟩, .int .i64 0, .int .i64 0, .int .i64 0, .slice none 0 0]) 5 64 Tryz.underlying25 hi hz0 hz1 hz2 rfl (by decide) _ _ _ rfl PU1.out ⟨w1.heap.size, 0, none⟩ 1 1 (bellC (x) (.slice (some ⟨G, 0, none⟩) (x).n c9)) rfl rfl PU2.out (fun u hu => by simp [bellC] at hu; rcases hu with rfl | rfl | rfl | rfl | rfl <;> rfl) (by unfold maxLen; omega) (by omega) (by simp; omega) ?_; intro v9 w9 hown' hgrow _; refine Hid.out ?_)
                  refine Lib.hid ?_
                  obtain ⟨hbx9, hbr, hbs⟩ := PU3.out w9 hgrow
                  have hown := Lib.hid hown'
                  have hbx := Lib.hid hbx9
                  clear hown' hgrow hbx9 PU1 PU2 PU3
                  go_wp2_with fail
                  go_meet
                  exact ⟨by rw [hz.out], _, hown, hbx, hbr⟩
              case rest =>
                clear hown hbx hbr
                obtain ⟨rfl, xs2, hown, hbx, hbr⟩ := hcut
                obtain ⟨A9, c9, G9, hv, hbo, hge⟩ := bellOwn_of hown.out hbx.out (Nat.le_refl _)
                subst hv
                have HBO := Lib.hid hbo
                have HCAP := Lib.hid (own_cap hown.out)
                have HSU := Lib.hid (sEnough_calls B m d g A9 (k + 1) c9 (insF f P x) wc (HM2.out.keep hbr) hm hbo.row HFL.out)
                obtain ⟨S, hS⟩ : ∃ S, S = suffB g m (insF f P x) (k + 1) := ⟨_, rfl⟩
                obtain ⟨E, hE⟩ : ∃ E, E = hasB f x k := ⟨_, rfl⟩
                rw [← hS] at HSU
                rw [← hE]
                have hR := HADC.out
                rw [← hS, ← hE] at hR
                have hHR := Lib.hid hR
                clear hbo hown hbx hS hE HADC hR
                go_wp2_with fail
                go_at_call 103
                refine HSU.out.mono ?_
                rintro e w5 ⟨rfl, hb5⟩
                have HB9 := Lib.hid (HBX2.out.trans ((hbr.trans (hb5.mono hbr.size)).mono (by omega)))
                have HBO5 := Lib.hid (HBO.out.keep hb5)
                clear HSU hb5 hbr HBO
                cases S
                · have hR : adC g m f k x = 6 := by rw [hHR.out]; rfl
                  go_wp2
                  refine bodyPost_ret (v := .tuple #[.slice none 0 0, .int .i64 6]) (by simp [results, Tryz.results74, go_sem]) rfl ?_
                  exact ⟨.inl ⟨by rw [hR]; decide, by rw [hR], HB9.out⟩, capNone _ _⟩
                · cases E
                  · by_cases z : k = 24
                    · have hR : adC g m f k x = 5 := by rw [hHR.out, if_neg (by decide), if_neg (by decide), if_pos z]
                      have z2 : (k : Int) = 24 := by omega
                      clear z
                      go_wp2
                      refine bodyPost_ret (v := .tuple #[.slice none 0 0, .int .i64 5]) (by simp [results, Tryz.results74, go_sem]) rfl ?_
                      exact ⟨.inl ⟨by rw [hR]; decide, by rw [hR], HB9.out⟩, capNone _ _⟩
                    · have hR : adC g m f k x = 0 := by rw [hHR.out, if_neg (by decide), if_neg (by decide), if_neg z]
                      have z2 : ¬ (k : Int) = 24 := by omega
                      clear z
                      go_wp2
                      refine bodyPost_ret (v := .tuple #[.slice A9 (k + 1) c9, .int .i64 0]) (by simp [results, Tryz.results74, go_sem]) rfl ?_
                      exact ⟨.inr ⟨hR, A9, c9, G9, rfl, by rw [← HPP.out]; exact HBO5.out.lower (by omega), by omega, HB9.out⟩, fun A c o h => by
                        injection h with h
                        injection h with h
                        have h1 := congrArg (fun a : Array Value => a[0]?) h
                        simp at h1
                        have := HCAP.out
                        omega⟩
                  · have hR : adC g m f k x = 4 := by rw [hHR.out, if_neg (by decide), if_pos rfl]
                    go_wp2
                    refine bodyPost_ret (v := .tuple #[.slice none 0 0, .int .i64 4]) (by simp [results, Tryz.results74, go_sem]) rfl ?_
                    exact ⟨.inl ⟨by rw [hR]; decide, by rw [hR], HB9.out⟩, capNone _ _⟩
theorem sAddBell_calls (B : Option Addr) (m d : Nat) (g : Nat → MeltV) (A : Option Addr) (n c : Nat) (f : Nat → BellV) (x : BellV) (C : Option Addr) (e2 : Nat) (w : World) (h2 : MeltRow w B m g) (hm : m ≤ 1048576) (hg : ∀ i, i < m → FineM (g i)) (h : BellRow w A n f) (hn : n ≤ 1048576) (hf : ∀ i, i < n → Fine (f i)) (h3 : ShareRow w C x.n x.ss x.ms) (hx : Fine x) :
    Calls Tryz.prog 74 #[.slice B m d, .slice A n c, .agg #[.string x.id, .int .i64 x.no, .int .i64 x.ma, .int .i64 x.fe, .slice C x.n e2]] w (AddOut g m f n x w) :=
  (sAddBell_cap B m d g A n c f x C e2 w h2 hm hg h hn hf h3 hx).mono fun _ _ h => h.1
end Go.Proofs.YticnpibkpfpojaaGreatDoor
