/- The alloy of a choice of ingots, in the program. -/
import Derived.Test.YticnpibkpfpojaaGreatMetal
import Derived.RegionTactic
namespace Go.Proofs.YticnpibkpfpojaaGreat
set_option linter.unusedVariables false
set_option linter.unusedSimpArgs false
open Go.RowKit

theorem sumX_pos {p : Nat → Int} {ix : Nat → Nat} : ∀ {q : Nat}, (∀ t, t < q → 1 ≤ p (ix t)) → (q : Int) ≤ sumX p ix q
  | 0, _ => by simp [sumX]
  | q + 1, h => by
    have ih := sumX_pos (p := p) (ix := ix) (q := q) (fun t ht => h t (by omega))
    have h1 := h q (by omega)
    show ((q + 1 : Nat) : Int) ≤ sumX p ix q + p (ix q)
    omega
theorem sumX_mul {p r : Nat → Int} {ix : Nat → Nat} {M : Int} : ∀ {q : Nat}, (∀ t, t < q → 0 ≤ p (ix t) ∧ 0 ≤ r (ix t) ∧ r (ix t) ≤ M) → 0 ≤ sumX (fun i => p i * r i) ix q ∧ sumX (fun i => p i * r i) ix q ≤ sumX p ix q * M
  | 0, _ => by simp [sumX]
  | q + 1, h => by
    have ih := sumX_mul (p := p) (r := r) (ix := ix) (M := M) (q := q) (fun t ht => h t (by omega))
    obtain ⟨h1, h2, h3⟩ := h q (by omega)
    have e : (sumX p ix q + p (ix q)) * M = sumX p ix q * M + p (ix q) * M := Int.add_mul _ _ _
    have h4 : 0 ≤ p (ix q) * r (ix q) := Int.mul_nonneg h1 h2
    have h5 : p (ix q) * r (ix q) ≤ p (ix q) * M := Int.mul_le_mul_of_nonneg_left h3 h1
    show 0 ≤ sumX (fun i => p i * r i) ix q + p (ix q) * r (ix q) ∧ sumX (fun i => p i * r i) ix q + p (ix q) * r (ix q) ≤ (sumX p ix q + p (ix q)) * M
    rw [e]
    omega
/-- a part of the alloy of a choice -/
def partV (a1 r : Nat → Int) (ix : Nat → Nat) (q : Nat) : Int := sumX (fun i => a1 i * r i) ix q / sumX a1 ix q
theorem part_bd {a1 r : Nat → Int} {ix : Nat → Nat} {q : Nat} (hq : 0 < q) (h1 : ∀ t, t < q → 1 ≤ a1 (ix t)) (h2 : ∀ t, t < q → 0 ≤ r (ix t) ∧ r (ix t) ≤ 1000000) : 0 ≤ partV a1 r ix q ∧ partV a1 r ix q ≤ 1000000 := by
  have hp := sumX_pos h1
  have hm := sumX_mul (p := a1) (r := r) (ix := ix) (M := 1000000) (q := q) (fun t ht => ⟨by have := h1 t ht; omega, (h2 t ht).1, (h2 t ht).2⟩)
  unfold partV
  generalize sumX (fun i => a1 i * r i) ix q = X at *
  generalize sumX a1 ix q = Y at *
  constructor
  · exact Int.ediv_nonneg hm.1 (by omega)
  · exact Int.ediv_le_of_le_mul (by omega) (by rw [Int.mul_comm]; exact hm.2)
set_option maxHeartbeats 4000000 in
theorem mix_calls (A : Option Addr) (n c : Nat) (s0 : Nat → ByteArray) (a1 a2 a3 a4 : Nat → Int) (B : Option Addr) (q d : Nat) (ix : Nat → Nat) (w : World) (h : IngotRow w A n s0 a1 a2 a3 a4) (hn : n ≤ 1048576) (h2 : IntRow w B q (fun t => (ix t : Int))) (hq : q ≤ 16) (hq0 : 0 < q) (hix : ∀ t, t < q → ix t < n) (hb : IngB n a1 a3 a4) (hp : ∀ i, i < n → 1 ≤ a1 i) :
    Calls Tryz.prog 51 #[.slice A n c, .slice B q d] w fun e w' => e = .returned (.tuple #[.agg #[.int .i64 (1000000 - partV a1 a3 ix q - partV a1 a4 ix q), .int .i64 (partV a1 a3 ix q), .int .i64 (partV a1 a4 ix q)], .int .i64 (sumX a1 ix q)]) ∧ Below w.heap.size w w' := by
  have hal := (Below.refl w.heap.size w).alloc (Nat.le_refl _) (.cells #[.int .i64 0, .int .i64 0, .int .i64 0] 42)
  have HAL := Lib.hid hal
  have HR := Lib.hid (Blk.new w 42 #[.int .i64 0, .int .i64 0, .int .i64 0])
  have HC := Lib.hid (sums_calls A n c s0 a1 a2 a3 a4 B q d ix _ (h.below hal (Nat.le_refl _)) hn (fun hq => by obtain ⟨b, o, e, hall⟩ := h2 hq; exact ⟨b, o, e, fun i hi => cell_keep hal (hall i hi)⟩) hq hix hb)
  have b1 := part_bd (a1 := a1) (r := a3) (ix := ix) hq0 (fun t ht => hp _ (hix t ht)) (fun t ht => (hb _ (hix t ht)).2.1)
  have b2 := part_bd (a1 := a1) (r := a4) (ix := ix) hq0 (fun t ht => hp _ (hix t ht)) (fun t ht => (hb _ (hix t ht)).2.2)
  have b3 := sumX_pos (p := a1) (ix := ix) (q := q) (fun t ht => hp _ (hix t ht))
  have b4 := (sumX_le (p := a1) (ix := ix) (M := 20000000) (q := q) (fun t ht => (hb _ (hix t ht)).1) (by omega) q (Nat.le_refl _)).2
  have b5 := (sumX_le (p := fun i => a1 i * a3 i) (ix := ix) (M := 20000000000000) (q := q) (fun t ht => mul_le6 (hb _ (hix t ht)).1 (hb _ (hix t ht)).2.1) (by omega) q (Nat.le_refl _))
  have b6 := (sumX_le (p := fun i => a1 i * a4 i) (ix := ix) (M := 20000000000000) (q := q) (fun t ht => mul_le6 (hb _ (hix t ht)).1 (hb _ (hix t ht)).2.2) (by omega) q (Nat.le_refl _))
  unfold partV at *
  generalize sumX (fun i => a1 i * a3 i) ix q = X at *
  generalize sumX (fun i => a1 i * a4 i) ix q = Y at *
  generalize sumX a1 ix q = M at *
  have e1 := quo_nonneg (a := X) (b := M) (by omega) (by omega) (by omega)
  have e2 := quo_nonneg (a := Y) (b := M) (by omega) (by omega) (by omega)
  generalize X / M = T at *
  generalize Y / M = O at *
  have hM : ¬ M = 0 := by omega
  clear h h2 hix hb hp b5 b6 hal
  go_enter Tryz.func51, Tryz.ntmps51
  go_wp2_with fail
  go_at_call 74
  with_reducible refine HC.out.mono ?_
  rintro e w1 ⟨rfl, hb1⟩
  have hbr := HAL.out.trans (hb1.mono HAL.out.size)
  have R2 := HR.out.keep hb1
  have f0 := R2.frozen 0
  have f1 := R2.frozen 1
  have f2 := R2.frozen 2
  have y0 := (R2.cell 0).trans rfl
  have y1 := (R2.cell 1).trans rfl
  have y2 := (R2.cell 2).trans rfl
  have hl := R2.lt
  have HBR := Lib.hid hbr
  clear HC HR R2 hb1 hbr
  go_wp2
  go_region
  all_goals go_wp2
  all_goals refine bodyPost_ret (v := .tuple #[.agg #[.int .i64 (1000000 - T - O), .int .i64 T, .int .i64 O], .int .i64 M]) (by simp [results, Tryz.results51, go_sem, y0, y1, y2, hl]) rfl ?_
  all_goals refine ⟨rfl, ?_⟩
  all_goals (have hbr := HBR.out; go_grown)
/-- a part of the alloy of a melt -/
def mT (s0 : Nat → ByteArray) (n : Nat) (a1 r : Nat → Int) (ss : Nat → ByteArray) (q : Nat) : Int := partV a1 r (fun t => mIx s0 n (ss t)) q
theorem mT_bd (s0 : Nat → ByteArray) (a1 a2 a3 a4 : Nat → Int) {n q : Nat} {ss : Nat → ByteArray} (hq : 0 < q) (hall : allHave s0 n ss q = true) (hb : IngB n a1 a3 a4) (hp : ∀ i, i < n → 1 ≤ a1 i) : (0 ≤ mT s0 n a1 a3 ss q ∧ mT s0 n a1 a3 ss q ≤ 1000000) ∧ (0 ≤ mT s0 n a1 a4 ss q ∧ mT s0 n a1 a4 ss q ≤ 1000000) :=
  ⟨part_bd hq (fun t ht => hp _ (mIx_all hall t ht)) (fun t ht => (hb _ (mIx_all hall t ht)).2.1), part_bd hq (fun t ht => hp _ (mIx_all hall t ht)) (fun t ht => (hb _ (mIx_all hall t ht)).2.2)⟩
set_option maxHeartbeats 4000000 in
theorem alloyOf_calls (A : Option Addr) (n c : Nat) (s0 : Nat → ByteArray) (a1 a2 a3 a4 : Nat → Int) (s : ByteArray) (AK : Option Addr) (q CK : Nat) (ss : Nat → ByteArray) (ma : Int) (w : World) (h : IngotRow w A n s0 a1 a2 a3 a4) (hn : n ≤ 1048576) (hs : Srt s0 n) (h2 : StrRow w AK q ss) (hq : q ≤ 16) (hq0 : 0 < q) (hall : allHave s0 n ss q = true) (hb : IngB n a1 a3 a4) (hp : ∀ i, i < n → 1 ≤ a1 i) :
    Calls Tryz.prog 30 #[.slice A n c, .agg #[.string s, .slice AK q CK, .int .i64 ma]] w fun e w' => e = .returned (.agg #[.int .i64 (1000000 - mT s0 n a1 a3 ss q - mT s0 n a1 a4 ss q), .int .i64 (mT s0 n a1 a3 ss q), .int .i64 (mT s0 n a1 a4 ss q)]) ∧ Below w.heap.size w w' := by
  have hal := ((Below.refl w.heap.size w).alloc (Nat.le_refl _) (.cells #[.string s, .slice AK q CK, .int .i64 ma] 66)).alloc (by simp) (.cells #[.int .i64 0, .int .i64 0, .int .i64 0] 42)
  have HAL := Lib.hid hal
  have H := Lib.hid h
  have HC := Lib.hid (choiceOf_calls A n c s0 a1 a2 a3 a4 s AK q CK ss ma _ (h.below hal (Nat.le_refl _)) hn hs (h2.keep hal) (by omega))
  have HR := Lib.hid (Blk.new2 w (.cells #[.string s, .slice AK q CK, .int .i64 ma] 66) 42 #[.int .i64 0, .int .i64 0, .int .i64 0])
  have HA := Lib.hid hall
  have HB := Lib.hid hb
  have HP := Lib.hid hp
  clear hal h h2 hs hall hb hp
  unfold mT
  obtain ⟨T, hT⟩ : ∃ T, T = partV a1 a3 (fun t => mIx s0 n (ss t)) q := ⟨_, rfl⟩
  obtain ⟨O, hO⟩ : ∃ O, O = partV a1 a4 (fun t => mIx s0 n (ss t)) q := ⟨_, rfl⟩
  rw [← hT, ← hO]
  go_enter Tryz.func30, Tryz.ntmps30
  go_wp2_with fail
  go_at_call 50
  with_reducible refine HC.out.mono ?_
  rintro e w1 ⟨v, rfl, hv, hb1⟩
  obtain ⟨B, d, rfl, hrow⟩ := hv HA.out
  have hbr := HAL.out.trans (hb1.mono HAL.out.size)
  have HRR := Lib.hid (HR.out.keep hb1)
  have HS := Lib.hid (mix_calls A n c s0 a1 a2 a3 a4 B q d (fun t => mIx s0 n (ss t)) w1 (H.out.below hbr (Nat.le_refl _)) hn hrow hq hq0 (mIx_all HA.out) HB.out HP.out)
  rw [HA.out]
  clear hv hrow hb1 HC HR
  rw [← hT, ← hO] at HS
  clear hT hO
  go_wp2_with fail
  go_at_call 51
  with_reducible refine HS.out.mono ?_
  rintro e w2 ⟨rfl, hb2⟩
  have hbr2 := hbr.trans (hb2.mono hbr.size)
  have R2 := HRR.out.keep hb2
  have f0 := R2.frozen 0
  have f1 := R2.frozen 1
  have f2 := R2.frozen 2
  have y0 := (R2.cell 0).trans rfl
  have y1 := (R2.cell 1).trans rfl
  have y2 := (R2.cell 2).trans rfl
  have hl := R2.lt
  clear HRR hb2 HS hbr
  go_wp2
  refine bodyPost_ret (v := .agg #[.int .i64 (1000000 - T - O), .int .i64 T, .int .i64 O]) (by simp [results, Tryz.results30, go_sem, y0, y1, y2, hl]) rfl ?_
  refine ⟨rfl, ?_⟩
  have hbr := hbr2
  go_grown
end Go.Proofs.YticnpibkpfpojaaGreat
