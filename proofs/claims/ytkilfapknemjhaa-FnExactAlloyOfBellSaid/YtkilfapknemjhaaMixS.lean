/- The alloy of a choice of ingots and of a melt, in the reference. -/
import Derived.Test.YtkilfapknemjhaaMix
import Derived.Test.YtkilfapknemjhaaPossS
namespace Go.Proofs.Ytkilfapknemjhaa
set_option linter.unusedVariables false
set_option linter.unusedSimpArgs false
open Go.RowKit

set_option maxRecDepth 20000 in
set_option maxHeartbeats 4000000 in
theorem rises_calls (B : Option Addr) (q d : Nat) (p : Nat → Int) (lo hi : Int) (w : World) (h : IntRow w B q p) (hq : q ≤ 1048576) (hb : ∀ t, t < q → lo ≤ p t ∧ p t ≤ hi) (hr : ∀ t, t + 1 < q → p t < p (t + 1)) :
    Calls Try.prog 212 #[.slice B q d, .int .i64 lo, .int .i64 hi] w fun e w' => e = .returned (.bool true) ∧ ∃ m, w' = w.drewN m := by
  have H := Lib.hid h
  have HB := Lib.hid hb
  have HR := Lib.hid hr
  clear h hb hr
  go_enter Try.func212, Try.ntmps212
  go_wp2
  go_loopw [7] (fun i wr => ∃ k : Nat, k ≤ q ∧ i = .int .i64 k ∧ Hid (∃ m, wr = w.drewN m)) (fun i _ => q - (intOf i).toNat)
  case atStart => exact ⟨0, by omega, rfl, Lib.hid ⟨0, rfl⟩⟩
  case round =>
    obtain ⟨k, hk, rfl, hwr⟩ := hrel
    by_cases hlt : k < q
    · obtain ⟨b, o, rfl, hrow⟩ := H.out (by omega)
      have hall : ∀ i, i < q → wr.cell? ⟨b, o + i, none⟩ = some (.int .i64 (p i)) := fun i hi => by obtain ⟨m, hm⟩ := hwr.out; rw [hm]; exact hrow i hi
      have c0 := hall k hlt
      obtain ⟨v, hv⟩ : ∃ v, v = p k := ⟨_, rfl⟩
      have hbv := HB.out k hlt
      rw [← hv] at c0 hbv
      have HCN := Lib.hid (show ∀ m, Calls Try.prog 58 #[.int .i64 v, .int .i64 lo, .int .i64 hi] (wr.drewN m) (fun e w' => e = .returned (.bool true) ∧ wr.drewN m = w') from fun m => by have hq := in_calls v lo hi (wr.drewN m); rwa [inB_yes hbv.1 hbv.2] at hq)
      have HAL := Lib.hid hall
      have HV := Lib.hid hv
      have HRW := Lib.hid hrow
      clear hrow hall hv hbv
      rcases Nat.eq_zero_or_pos k with hz | hz
      · have hd1 : decide ((0 : Int) < (k : Int)) = false := decide_eq_false (by omega)
        have hd2 : decide (0 < k) = false := decide_eq_false (by omega)
        clear hz
        go_wp2_with fail
        go_quiet ((go_at_call 58; with_reducible exact quiet_left (HCN.out _)))
        go_wp2
        go_roundw
        case rel => exact ⟨k + 1, by omega, by go_num, Lib.hid (by obtain ⟨m, hm⟩ := hwr.out; rw [hm]; exact ⟨_, World.drewN_drewN _ _ _⟩)⟩
        case measure => simp [intOf]; omega
      · obtain ⟨j, hj⟩ : ∃ j, k = j + 1 := ⟨k - 1, by omega⟩
        obtain ⟨u, hu⟩ : ∃ u, u = p j := ⟨_, rfl⟩
        have pr : wr.cell? ⟨b, o + j, none⟩ = some (.int .i64 u) := by rw [hu]; exact HAL.out j (by omega)
        have hlt2 : u < v := by have h9 := HR.out j (by omega); rw [hu, HV.out, hj]; exact h9
        have hd1 : decide ((0 : Int) < (k : Int)) = true := decide_eq_true (by omega)
        have hd2 : decide (0 < k) = true := decide_eq_true (by omega)
        have hw : IntKind.i64.wrap ((k : Int) - 1) = (j : Int) := (IntWalk.i64_in _ ⟨by omega, by omega⟩).trans (by omega)
        have hjn : j < q := by omega
        clear hj hz hu
        go_wp2_with fail
        go_quiet ((go_at_call 58; with_reducible exact quiet_left (HCN.out _)))
        go_wp2
        go_roundw
        case rel => exact ⟨k + 1, by omega, by go_num, Lib.hid (by obtain ⟨m, hm⟩ := hwr.out; rw [hm]; exact ⟨_, World.drewN_drewN _ _ _⟩)⟩
        case measure => simp [intOf]; omega
    · obtain rfl : k = q := by omega
      go_wp2
      go_ret
      exact ⟨rfl, hwr.out⟩
theorem ix_rises {s0 : Nat → ByteArray} {n : Nat} {ss : Nat → ByteArray} {q : Nat} (hs : Srt s0 n) (hall : allHave s0 n ss q = true) (hss : Srt ss q) : ∀ t, t + 1 < q → chV s0 n ss t < chV s0 n ss (t + 1) := fun t ht => by
  obtain ⟨i1, -, i3⟩ := mIx_of (allB_of hall t (by omega))
  obtain ⟨j1, -, j3⟩ := mIx_of (allB_of hall (t + 1) ht)
  have hl := hss t (t + 1) (by omega) ht
  unfold chV
  generalize mIx s0 n (ss t) = i at *
  generalize mIx s0 n (ss (t + 1)) = j at *
  rcases Nat.lt_trichotomy i j with h | h | h
  · omega
  · subst h
    exfalso
    have e1 := eq_of_beq i3
    have e2 := eq_of_beq j3
    unfold ltS at hl
    rw [← e1, ← e2, less_irrefl] at hl
    cases hl
  · exfalso
    have h1 := hs j i h i1
    have e1 := eq_of_beq i3
    have e2 := eq_of_beq j3
    unfold ltS at h1 hl
    rw [e1, e2] at h1
    have := less_trans h1 hl
    rw [less_irrefl] at this
    cases this
theorem namesB_srt {ss : Nat → ByteArray} {n : Nat} (h : namesB ss n = true) : Srt ss n := srt_of fun k hk => by
  have h1 := allB_of h (k + 1) hk
  unfold goodAt at h1
  simp only [Bool.and_eq_true] at h1
  have h2 := h1.2
  show Op.bytesLess (ss k).toList (ss (k + 1)).toList = true
  simpa using h2
theorem meltV_of {x : MeltV} (h : meltV x = true) : 1 ≤ x.n ∧ x.n ≤ 16 ∧ Srt x.ss x.n := by
  unfold meltV at h
  simp only [Bool.and_eq_true, decide_eq_true_eq] at h
  exact ⟨by omega, by omega, namesB_srt h.2.2.2.1⟩
set_option maxHeartbeats 1000000 in
theorem sChosenOk_calls (A : Option Addr) (n c : Nat) (B : Option Addr) (q d : Nat) (p : Nat → Int) (w : World) (hn : n ≤ 1048576) (h : IntRow w B q p) (hq : q ≤ 1048576) (hb : ∀ t, t < q → 0 ≤ p t ∧ p t ≤ (n : Int) - 1) (hr : ∀ t, t + 1 < q → p t < p (t + 1)) :
    Calls Try.prog 198 #[.slice A n c, .slice B q d] w fun e w' => e = .returned (.bool true) ∧ ∃ m, w' = w.drewN m := by
  have HC := Lib.hid (rises_calls B q d p 0 ((n : Int) - 1) w h hq hb hr)
  clear h hb hr
  go_enter Try.func198, Try.ntmps198
  go_wp2_with (go_at_call 212; with_reducible refine HC.out.mono ?_; rintro e w1 ⟨rfl, nd, rfl⟩)
  go_ret
  exact ⟨rfl, nd, rfl⟩
set_option maxRecDepth 20000 in
set_option maxHeartbeats 4000000 in
theorem sSum_calls (A : Option Addr) (n c : Nat) (s0 : Nat → ByteArray) (a1 a2 a3 a4 : Nat → Int) (B : Option Addr) (q d : Nat) (ix : Nat → Nat) (w : World) (h : IngotRow w A n s0 a1 a2 a3 a4) (hn : n ≤ 1048576) (h2 : IntRow w B q (fun t => (ix t : Int))) (hq : q ≤ 16) (hix : ∀ t, t < q → ix t < n) (hb : IngB n a1 a3 a4) :
    Calls Try.prog 199 #[.slice A n c, .slice B q d] w fun e w' => e = .returned (.tuple #[.int .i64 (sumX a1 ix q), .int .i64 (sumX (fun i => a1 i * a3 i) ix q), .int .i64 (sumX (fun i => a1 i * a4 i) ix q)]) ∧ Below w.heap.size w w' := by
  have H := Lib.hid h
  have H2 := Lib.hid h2
  have HI := Lib.hid hix
  have HB := Lib.hid hb
  clear h h2 hix hb
  go_enter Try.func199, Try.ntmps199
  go_wp2
  go_loopw [7, 8, 9, 10] (fun u v x i wr => ∃ (k : Nat) (m t o : Int), k ≤ q ∧ i = .int .i64 k ∧ u = .int .i64 m ∧ v = .int .i64 t ∧ x = .int .i64 o ∧ Hid (m = sumX a1 ix k) ∧ Hid (t = sumX (fun i => a1 i * a3 i) ix k) ∧ Hid (o = sumX (fun i => a1 i * a4 i) ix k) ∧ Below w.heap.size w wr) (fun _ _ _ i _ => q - (intOf i).toNat)
  case atStart => exact ⟨0, 0, 0, 0, by omega, rfl, rfl, rfl, rfl, Lib.hid rfl, Lib.hid rfl, Lib.hid rfl, Below.refl _ _⟩
  case round =>
    obtain ⟨k, m, t, o, hk, rfl, rfl, rfl, rfl, hm, ht, ho, hbr⟩ := hrel
    by_cases hlt : k < q
    · obtain ⟨bb, ob, rfl, hrow2⟩ := H2.out (by omega)
      have e0 := cell_keep hbr (hrow2 k hlt)
      obtain ⟨r, hr⟩ : ∃ r, r = ix k := ⟨_, rfl⟩
      have hrn : r < n := by rw [hr]; exact HI.out k hlt
      have e1 : wr.cell? ⟨bb, ob + k, none⟩ = some (.int .i64 (r : Int)) := by rw [hr]; exact e0
      obtain ⟨b, o2, rfl, hrow⟩ := H.out (by omega)
      obtain ⟨c0, c1, c2, c3, c4⟩ := (hrow r hrn).below hbr (Nat.le_refl _)
      have HR := Lib.hid hrow
      have HR2 := Lib.hid hrow2
      obtain ⟨g1, g2, g3⟩ := HB.out r hrn
      obtain ⟨x1, hx1⟩ : ∃ x, x = a1 r := ⟨_, rfl⟩
      obtain ⟨x3, hx3⟩ : ∃ x, x = a3 r := ⟨_, rfl⟩
      obtain ⟨x4, hx4⟩ : ∃ x, x = a4 r := ⟨_, rfl⟩
      rw [← hx1] at c1 g1
      rw [← hx3] at c3 g2
      rw [← hx4] at c4 g3
      have s1 := sumX_le (p := a1) (ix := ix) (M := 20000000) (q := q) (fun t ht => (HB.out _ (HI.out t ht)).1) (by omega) k (by omega)
      have s2 := sumX_le (p := fun i => a1 i * a3 i) (ix := ix) (M := 20000000000000) (q := q) (fun t ht => mul_le6 (HB.out _ (HI.out t ht)).1 (HB.out _ (HI.out t ht)).2.1) (by omega) k (by omega)
      have s3 := sumX_le (p := fun i => a1 i * a4 i) (ix := ix) (M := 20000000000000) (q := q) (fun t ht => mul_le6 (HB.out _ (HI.out t ht)).1 (HB.out _ (HI.out t ht)).2.2) (by omega) k (by omega)
      rw [← hm.out] at s1
      rw [← ht.out] at s2
      rw [← ho.out] at s3
      have n1 : Hid (m + x1 = sumX a1 ix (k + 1)) := Lib.hid (by rw [hm.out, hx1, hr]; rfl)
      have n2 : Hid (t + x1 * x3 = sumX (fun i => a1 i * a3 i) ix (k + 1)) := Lib.hid (by rw [ht.out, hx1, hx3, hr]; rfl)
      have n3 : Hid (o + x1 * x4 = sumX (fun i => a1 i * a4 i) ix (k + 1)) := Lib.hid (by rw [ho.out, hx1, hx4, hr]; rfl)
      have p1 := mul_le6 g1 g2
      have p2 := mul_le6 g1 g3
      clear hrow hrow2 hr e0 hx1 hx3 hx4 hm ht ho
      go_wp2
      go_roundw
      case rel => exact ⟨k + 1, m + x1, t + x1 * x3, o + x1 * x4, by omega, by go_num, rfl, rfl, rfl, n1, n2, n3, hbr.alloc hbr.size _⟩
      case measure => simp [intOf]; omega
    · obtain rfl : k = q := by omega
      go_wp2
      refine bodyPost_ret (v := .tuple #[.int .i64 m, .int .i64 t, .int .i64 o]) (by simp [results, Try.results199, go_sem]) rfl ?_
      exact ⟨by rw [hm.out, ht.out, ho.out], hbr⟩
set_option maxHeartbeats 4000000 in
theorem sMixOf_calls (A : Option Addr) (n c : Nat) (s0 : Nat → ByteArray) (a1 a2 a3 a4 : Nat → Int) (B : Option Addr) (q d : Nat) (ix : Nat → Nat) (w : World) (h : IngotRow w A n s0 a1 a2 a3 a4) (hsz : ∀ i, i < n → (s0 i).size ≤ maxLen) (hn : n ≤ 1048576) (hok : okIngs s0 a1 a2 a3 a4 n = true) (h2 : IntRow w B q (fun t => (ix t : Int))) (hq : q ≤ 16) (hq0 : 0 < q) (hix : ∀ t, t < q → ix t < n) (hr : ∀ t, t + 1 < q → (ix t : Int) < ix (t + 1)) :
    Calls Try.prog 165 #[.slice A n c, .slice B q d] w fun e w' => e = .returned (.tuple #[.agg #[.int .i64 (1000000 - partV a1 a3 ix q - partV a1 a4 ix q), .int .i64 (partV a1 a3 ix q), .int .i64 (partV a1 a4 ix q)], .int .i64 (sumX a1 ix q), .int .i64 0]) ∧ Below w.heap.size w w' := by
  have hn2 : n ≤ maxLen := by unfold maxLen; omega
  have hb := (okIngs_bd hok).1
  have hp := okIngs_pos hok
  have hal := (Below.refl w.heap.size w).alloc (Nat.le_refl _) (.cells #[.int .i64 0, .int .i64 0, .int .i64 0] 67)
  have HR := Lib.hid (Blk.new w 67 #[.int .i64 0, .int .i64 0, .int .i64 0])
  have H := Lib.hid h
  have H2 := Lib.hid h2
  have HAL := Lib.hid hal
  have HOK := Lib.hid hok
  have HC1 := Lib.hid (spec_l13Ok_calls A n c s0 a1 a2 a3 a4 _ (h.below hal (Nat.le_refl _)) hsz hn2)
  have HC2 := Lib.hid (fun (W : World) (hb1 : Below w.heap.size w W) => sChosenOk_calls A n c B q d (fun t => (ix t : Int)) W hn (fun hq => by obtain ⟨b, o, e, hall⟩ := h2 hq; exact ⟨b, o, e, fun i hi => cell_keep hb1 (hall i hi)⟩) (by omega) (fun t ht => by have := hix t ht; omega) hr)
  have HC3 := Lib.hid (fun (W : World) (hb1 : Below w.heap.size w W) => sSum_calls A n c s0 a1 a2 a3 a4 B q d ix W (h.below hb1 (Nat.le_refl _)) hn (fun hq => by obtain ⟨b, o, e, hall⟩ := h2 hq; exact ⟨b, o, e, fun i hi => cell_keep hb1 (hall i hi)⟩) hq hix hb)
  have b1 := part_bd (a1 := a1) (r := a3) (ix := ix) hq0 (fun t ht => hp _ (hix t ht)) (fun t ht => (hb _ (hix t ht)).2.1)
  have b2 := part_bd (a1 := a1) (r := a4) (ix := ix) hq0 (fun t ht => hp _ (hix t ht)) (fun t ht => (hb _ (hix t ht)).2.2)
  have b3 := sumX_pos (p := a1) (ix := ix) (q := q) (fun t ht => hp _ (hix t ht))
  have b4 := (sumX_le (p := a1) (ix := ix) (M := 20000000) (q := q) (fun t ht => (hb _ (hix t ht)).1) (by omega) q (Nat.le_refl _)).2
  have b5 := (sumX_le (p := fun i => a1 i * a3 i) (ix := ix) (M := 20000000000000) (q := q) (fun t ht => mul_le6 (hb _ (hix t ht)).1 (hb _ (hix t ht)).2.1) (by omega) q (Nat.le_refl _))
  have b6 := (sumX_le (p := fun i => a1 i * a4 i) (ix := ix) (M := 20000000000000) (q := q) (fun t ht => mul_le6 (hb _ (hix t ht)).1 (hb _ (hix t ht)).2.2) (by omega) q (Nat.le_refl _))
  rw [show (allB (goodAt (fun i => ingB (s0 i) (a1 i) (a2 i) (a3 i) (a4 i)) s0) n && decide ((n : Int) ≤ 16)) = true from hok] at HC1
  unfold partV at *
  generalize sumX (fun i => a1 i * a3 i) ix q = X at *
  generalize sumX (fun i => a1 i * a4 i) ix q = Y at *
  generalize sumX a1 ix q = M at *
  have e1 := quo_nonneg (a := X) (b := M) (by omega) (by omega) (by omega)
  have e2 := quo_nonneg (a := Y) (b := M) (by omega) (by omega) (by omega)
  generalize X / M = T at *
  generalize Y / M = O at *
  have hM : ¬ M = 0 := by omega
  have hq1 : ((q : Int) == 0) = false := by simp; omega
  have hq2 : ¬ q = 0 := by omega
  clear h h2 hix hr hb hp b5 b6 hal hok hsz
  go_enter Try.func165, Try.ntmps165
  go_wp2_with fail
  go_at_call 98
  with_reducible refine HC1.out.mono ?_
  rintro e w1 ⟨rfl, hb1⟩
  have hbr := HAL.out.trans (hb1.mono HAL.out.size)
  have HRR := Lib.hid (HR.out.keep hb1)
  clear HC1 HR hb1
  go_wp2_with fail
  go_at_call 198
  with_reducible refine (HC2.out _ hbr).mono ?_
  rintro e w2 ⟨rfl, nd, rfl⟩
  have hbr2 := below_drewN hbr nd
  have HRS := Lib.hid (HRR.out.drewN nd)
  clear HRR HC2
  generalize w1.drewN nd = w2 at *
  go_wp2_with fail
  go_at_call 199
  with_reducible refine (HC3.out _ hbr2).mono ?_
  rintro e w3 ⟨rfl, hb3⟩
  have hbr3 := hbr2.trans (hb3.mono hbr2.size)
  have R2 := HRS.out.keep hb3
  have f0 := R2.frozen 0
  have f1 := R2.frozen 1
  have f2 := R2.frozen 2
  have y0 := (R2.cell 0).trans rfl
  have y1 := (R2.cell 1).trans rfl
  have y2 := (R2.cell 2).trans rfl
  have hl := R2.lt
  have HBR := Lib.hid hbr3
  clear HRS R2 hb3 hbr3 hbr2 hbr HC3
  go_wp2
  go_region
  all_goals go_wp2
  all_goals refine bodyPost_ret (v := .tuple #[.agg #[.int .i64 (1000000 - T - O), .int .i64 T, .int .i64 O], .int .i64 M, .int .i64 0]) (by simp [results, Try.results165, go_sem, y0, y1, y2, hl]) rfl ?_
  all_goals refine ⟨rfl, ?_⟩
  all_goals (have hbr := HBR.out; go_grown)
theorem sAsk_calls (A : Option Addr) (n c : Nat) (s0 : Nat → ByteArray) (a1 a2 a3 a4 : Nat → Int) (b o : Nat) (x : MeltV) (w : World) (h : IngotRow w A n s0 a1 a2 a3 a4) (hsz : ∀ i, i < n → (s0 i).size ≤ maxLen) (hn : n ≤ 1048576) (hok : okIngs s0 a1 a2 a3 a4 n = true) (h2 : MeltAt w b o x) (hx : meltV x = true) (hf : FineM x) :
    Calls Try.prog 163 #[.slice A n c, .pointer (some ⟨b, o, none⟩)] w fun e w' => e = .returned (.int .i64 (if allHave s0 n x.ss x.n = true then 0 else 3)) ∧ Below w.heap.size w w' := by
  have hn2 : n ≤ maxLen := by unfold maxLen; omega
  have H := Lib.hid h
  have H2 := Lib.hid h2
  have HF := Lib.hid hf
  have HS := Lib.hid (okIngs_srt hok)
  have HC1 := Lib.hid (spec_l13Ok_calls A n c s0 a1 a2 a3 a4 _ h hsz hn2)
  rw [show (allB (goodAt (fun i => ingB (s0 i) (a1 i) (a2 i) (a3 i) (a4 i)) s0) n && decide ((n : Int) ≤ 16)) = true from hok] at HC1
  have hq16 := (meltV_of hx).2.1
  clear h hsz hok h2 hf
  generalize hR : (if allHave s0 n x.ss x.n = true then (0 : Int) else 3) = R
  cases q1 : allHave s0 n x.ss x.n
  all_goals
    rw [q1] at hR
    simp at hR
    subst hR
    go_enter Try.func163, Try.ntmps163
    go_wp2_with fail
    go_at_call 98
    with_reducible refine HC1.out.mono ?_
    rintro e w1 ⟨rfl, hb1⟩
    have HAT := Lib.hid (H2.out.keep hb1)
    have HB1 := Lib.hid hb1
    clear hb1
    go_wp2_with fail
    go_at_call 161
    refine (l14One_calls _ _ x _ HAT.out HF.out).mono ?_
    rw [hx]
    rintro e w2 ⟨rfl, nd, rfl⟩
    have HAT2 := Lib.hid (show MeltAt (w1.drewN nd) b o x from HAT.out)
    have HB2 := Lib.hid (below_drewN HB1.out nd)
    clear HAT HB1
    generalize w1.drewN nd = w2 at *
    go_wp2_with fail
    go_at_call 164
    refine (sChosen_calls A n c s0 a1 a2 a3 a4 b o x w2 (H.out.below HB2.out (Nat.le_refl _)) hn HS.out HAT2.out (by omega)).mono ?_
    rintro e w3 ⟨v, rfl, -, hb3⟩
    rw [q1]
    have HB3 := Lib.hid (HB2.out.trans (hb3.mono HB2.out.size))
    clear hb3
    go_wp2
    go_ret
    exact ⟨rfl, HB3.out⟩
def melW (w : World) (cs : Array Value) : World := (w.alloc (.cells cs 173)).alloc (.cells #[.int .i64 0, .int .i64 0, .int .i64 0] 67)
set_option maxHeartbeats 4000000 in
theorem sAlloyOfMelt_no (A : Option Addr) (n c : Nat) (s0 : Nat → ByteArray) (a1 a2 a3 a4 : Nat → Int) (s : ByteArray) (AK : Option Addr) (q CK : Nat) (ss : Nat → ByteArray) (ma : Int) (w : World) (h : IngotRow w A n s0 a1 a2 a3 a4) (hsz : ∀ i, i < n → (s0 i).size ≤ maxLen) (hn : n ≤ 1048576) (hok : okIngs s0 a1 a2 a3 a4 n = true) (h2 : StrRow w AK q ss) (hx : meltV (⟨s, q, ss, ma⟩ : MeltV) = true) (hf : FineM (⟨s, q, ss, ma⟩ : MeltV)) (q1 : allHave s0 n ss q = false) :
    Calls Try.prog 102 #[.slice A n c, .agg #[.string s, .slice AK q CK, .int .i64 ma]] w fun e w' => e = .returned (.tuple #[.agg #[.int .i64 0, .int .i64 0, .int .i64 0], .int .i64 3]) ∧ Below w.heap.size w w' := by
  have hn2 : n ≤ maxLen := by unfold maxLen; omega
  have hal := ((Below.refl w.heap.size w).alloc (Nat.le_refl _) (.cells #[.string s, .slice AK q CK, .int .i64 ma] 173)).alloc (by simp) (.cells #[.int .i64 0, .int .i64 0, .int .i64 0] 67)
  have HX := (Blk.new w 173 #[.string s, .slice AK q CK, .int .i64 ma]).alloc (.cells #[.int .i64 0, .int .i64 0, .int .i64 0] 67)
  have HR := Lib.hid (Blk.new2 w (.cells #[.string s, .slice AK q CK, .int .i64 ma] 173) 67 #[.int .i64 0, .int .i64 0, .int .i64 0])
  have HAL := Lib.hid hal
  have hat : MeltAt (melW w #[.string s, .slice AK q CK, .int .i64 ma]) w.heap.size 0 (⟨s, q, ss, ma⟩ : MeltV) := ⟨AK, CK, (HX.cell 0).trans rfl, (HX.cell 1).trans rfl, (HX.cell 2).trans rfl, h2.keep hal⟩
  have HC1 := Lib.hid (sAsk_calls A n c s0 a1 a2 a3 a4 w.heap.size 0 (⟨s, q, ss, ma⟩ : MeltV) _ (h.below hal (Nat.le_refl _)) hsz hn hok hat hx hf)
  rw [show (if allHave s0 n ((⟨s, q, ss, ma⟩ : MeltV)).ss ((⟨s, q, ss, ma⟩ : MeltV)).n = true then (0 : Int) else 3) = 3 by rw [show allHave s0 n ((⟨s, q, ss, ma⟩ : MeltV)).ss ((⟨s, q, ss, ma⟩ : MeltV)).n = allHave s0 n ss q from rfl, q1]; rfl] at HC1
  clear hat HX hal h h2 hsz hok hx hf
  go_enter Try.func102, Try.ntmps102
  go_wp2_with fail
  go_at_call 163
  with_reducible refine HC1.out.mono ?_
  rintro e w1 ⟨rfl, hb1⟩
  have hbr := HAL.out.trans (hb1.mono HAL.out.size)
  have R2 := HR.out.keep hb1
  have f0 := R2.frozen 0
  have f1 := R2.frozen 1
  have f2 := R2.frozen 2
  have y0 := (R2.cell 0).trans rfl
  have y1 := (R2.cell 1).trans rfl
  have y2 := (R2.cell 2).trans rfl
  have hl := R2.lt
  clear HC1 HR hb1
  go_wp2
  refine bodyPost_ret (v := .tuple #[.agg #[.int .i64 0, .int .i64 0, .int .i64 0], .int .i64 3]) (by simp [results, Try.results102, go_sem, y0, y1, y2, hl]) rfl ?_
  refine ⟨rfl, ?_⟩
  go_grown
set_option maxHeartbeats 4000000 in
theorem sAlloyOfMelt_yes (A : Option Addr) (n c : Nat) (s0 : Nat → ByteArray) (a1 a2 a3 a4 : Nat → Int) (s : ByteArray) (AK : Option Addr) (q CK : Nat) (ss : Nat → ByteArray) (ma : Int) (w : World) (h : IngotRow w A n s0 a1 a2 a3 a4) (hsz : ∀ i, i < n → (s0 i).size ≤ maxLen) (hn : n ≤ 1048576) (hok : okIngs s0 a1 a2 a3 a4 n = true) (h2 : StrRow w AK q ss) (hx : meltV (⟨s, q, ss, ma⟩ : MeltV) = true) (hf : FineM (⟨s, q, ss, ma⟩ : MeltV)) (q1 : allHave s0 n ss q = true) :
    Calls Try.prog 102 #[.slice A n c, .agg #[.string s, .slice AK q CK, .int .i64 ma]] w fun e w' => e = .returned (.tuple #[.agg #[.int .i64 (1000000 - mT s0 n a1 a3 ss q - mT s0 n a1 a4 ss q), .int .i64 (mT s0 n a1 a3 ss q), .int .i64 (mT s0 n a1 a4 ss q)], .int .i64 0]) ∧ Below w.heap.size w w' := by
  have hn2 : n ≤ maxLen := by unfold maxLen; omega
  have hal := ((Below.refl w.heap.size w).alloc (Nat.le_refl _) (.cells #[.string s, .slice AK q CK, .int .i64 ma] 173)).alloc (by simp) (.cells #[.int .i64 0, .int .i64 0, .int .i64 0] 67)
  have HX := (Blk.new w 173 #[.string s, .slice AK q CK, .int .i64 ma]).alloc (.cells #[.int .i64 0, .int .i64 0, .int .i64 0] 67)
  have HR := Lib.hid (Blk.new2 w (.cells #[.string s, .slice AK q CK, .int .i64 ma] 173) 67 #[.int .i64 0, .int .i64 0, .int .i64 0])
  have HAL := Lib.hid hal
  have hat : MeltAt (melW w #[.string s, .slice AK q CK, .int .i64 ma]) w.heap.size 0 (⟨s, q, ss, ma⟩ : MeltV) := ⟨AK, CK, (HX.cell 0).trans rfl, (HX.cell 1).trans rfl, (HX.cell 2).trans rfl, h2.keep hal⟩
  have HC1 := Lib.hid (sAsk_calls A n c s0 a1 a2 a3 a4 w.heap.size 0 (⟨s, q, ss, ma⟩ : MeltV) _ (h.below hal (Nat.le_refl _)) hsz hn hok hat hx hf)
  rw [show (if allHave s0 n ((⟨s, q, ss, ma⟩ : MeltV)).ss ((⟨s, q, ss, ma⟩ : MeltV)).n = true then (0 : Int) else 3) = 0 by rw [show allHave s0 n ((⟨s, q, ss, ma⟩ : MeltV)).ss ((⟨s, q, ss, ma⟩ : MeltV)).n = allHave s0 n ss q from rfl, q1]; rfl] at HC1
  have HAT := Lib.hid hat
  have H := Lib.hid h
  have HZ := Lib.hid hsz
  have HOK := Lib.hid hok
  have HA := Lib.hid q1
  obtain ⟨hq1, hq16, hsrt⟩ := meltV_of hx
  have HQ : Hid (1 ≤ q ∧ q ≤ 16) := Lib.hid ⟨hq1, hq16⟩
  have HSS : Hid (Srt ss q) := Lib.hid hsrt
  have HS := Lib.hid (okIngs_srt hok)
  unfold mT
  obtain ⟨T, hT⟩ : ∃ T, T = partV a1 a3 (fun t => mIx s0 n (ss t)) q := ⟨_, rfl⟩
  obtain ⟨O, hO⟩ : ∃ O, O = partV a1 a4 (fun t => mIx s0 n (ss t)) q := ⟨_, rfl⟩
  rw [← hT, ← hO]
  clear hat HX hal h h2 hsz hok hx hf q1 hq1 hq16 hsrt
  go_enter Try.func102, Try.ntmps102
  go_wp2_with fail
  go_at_call 163
  with_reducible refine HC1.out.mono ?_
  rintro e w1 ⟨rfl, hb1⟩
  have hbr := HAL.out.trans (hb1.mono HAL.out.size)
  have HR2 := Lib.hid (HR.out.keep hb1)
  have HC2 := Lib.hid (sChosen_calls A n c s0 a1 a2 a3 a4 w.heap.size 0 (⟨s, q, ss, ma⟩ : MeltV) w1 (H.out.below hbr (Nat.le_refl _)) hn HS.out (HAT.out.keep hb1) (Nat.le_trans HQ.out.2 (by omega)))
  clear HC1 HR hb1
  go_wp2_with fail
  go_at_call 164
  with_reducible refine HC2.out.mono ?_
  rintro e w2 ⟨v, rfl, hv, hb2⟩
  obtain ⟨B, d, rfl, hrow⟩ := hv HA.out
  have hbr2 := hbr.trans (hb2.mono hbr.size)
  have HR3 := Lib.hid (HR2.out.keep hb2)
  have HS3 := Lib.hid (sMixOf_calls A n c s0 a1 a2 a3 a4 B q d (fun t => mIx s0 n (ss t)) w2 (H.out.below hbr2 (Nat.le_refl _)) HZ.out hn HOK.out hrow HQ.out.2 HQ.out.1 (mIx_all HA.out) (ix_rises HS.out HA.out HSS.out))
  rw [← hT, ← hO] at HS3
  rw [show allHave s0 n ((⟨s, q, ss, ma⟩ : MeltV)).ss ((⟨s, q, ss, ma⟩ : MeltV)).n = true from HA.out]
  clear hv hrow hb2 HC2 HR2 hT hO hbr
  go_wp2_with fail
  go_at_call 165
  with_reducible refine HS3.out.mono ?_
  rintro e w3 ⟨rfl, hb3⟩
  have hbr := hbr2.trans (hb3.mono hbr2.size)
  have R2 := HR3.out.keep hb3
  have f0 := R2.frozen 0
  have f1 := R2.frozen 1
  have f2 := R2.frozen 2
  have y0 := (R2.cell 0).trans rfl
  have y1 := (R2.cell 1).trans rfl
  have y2 := (R2.cell 2).trans rfl
  have hl := R2.lt
  clear HR3 hb3 HS3 hbr2
  generalize sumX a1 (fun t => mIx s0 n (ss t)) q = MM
  go_wp2
  refine bodyPost_ret (v := .tuple #[.agg #[.int .i64 (1000000 - T - O), .int .i64 T, .int .i64 O], .int .i64 0]) (by simp [results, Try.results102, go_sem, y0, y1, y2, hl]) rfl ?_
  refine ⟨rfl, ?_⟩
  go_grown
end Go.Proofs.Ytkilfapknemjhaa
