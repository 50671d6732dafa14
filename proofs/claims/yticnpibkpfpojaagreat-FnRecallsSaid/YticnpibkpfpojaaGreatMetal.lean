/- The metal of a choice of ingots, and the greatest mass of a melt, in the program and in the reference. -/
import Derived.Test.YticnpibkpfpojaaGreatIngotS
namespace Go.Proofs.YticnpibkpfpojaaGreat
set_option linter.unusedVariables false
open Go.RowKit

def sumX (p : Nat → Int) (ix : Nat → Nat) : Nat → Int
  | 0 => 0
  | k + 1 => sumX p ix k + p (ix k)
theorem sumX_le {p : Nat → Int} {ix : Nat → Nat} {M : Int} {q : Nat} (h : ∀ t, t < q → 0 ≤ p (ix t) ∧ p (ix t) ≤ M) (hM : 0 ≤ M) : ∀ k, k ≤ q → 0 ≤ sumX p ix k ∧ sumX p ix k ≤ k * M
  | 0, _ => by simp [sumX]
  | k + 1, hk => by
    have ih := sumX_le h hM k (by omega)
    have h1 := h k (by omega)
    have e : ((k + 1 : Nat) : Int) * M = k * M + M := by push_cast; rw [Int.add_mul, Int.one_mul]
    rw [e]
    show 0 ≤ sumX p ix k + p (ix k) ∧ sumX p ix k + p (ix k) ≤ _
    omega
/-- the bounds of an ingot's numbers -/
def IngB (n : Nat) (a1 a3 a4 : Nat → Int) : Prop := ∀ i, i < n → (0 ≤ a1 i ∧ a1 i ≤ 20000000) ∧ (0 ≤ a3 i ∧ a3 i ≤ 1000000) ∧ (0 ≤ a4 i ∧ a4 i ≤ 1000000)
theorem mul_le6 {x y : Int} (hx : 0 ≤ x ∧ x ≤ 20000000) (hy : 0 ≤ y ∧ y ≤ 1000000) : 0 ≤ x * y ∧ x * y ≤ 20000000000000 :=
  ⟨Int.mul_nonneg hx.1 hy.1, Int.le_trans (Int.mul_le_mul hx.2 hy.2 hy.1 (by omega)) (by omega)⟩
set_option maxRecDepth 20000 in
set_option maxHeartbeats 4000000 in
theorem sums_calls (A : Option Addr) (n c : Nat) (s0 : Nat → ByteArray) (a1 a2 a3 a4 : Nat → Int) (B : Option Addr) (q d : Nat) (ix : Nat → Nat) (w : World) (h : IngotRow w A n s0 a1 a2 a3 a4) (hn : n ≤ 1048576) (h2 : IntRow w B q (fun t => (ix t : Int))) (hq : q ≤ 16) (hix : ∀ t, t < q → ix t < n) (hb : IngB n a1 a3 a4) :
    Calls Tryz.prog 74 #[.slice A n c, .slice B q d] w fun e w' => e = .returned (.tuple #[.int .i64 (sumX a1 ix q), .int .i64 (sumX (fun i => a1 i * a3 i) ix q), .int .i64 (sumX (fun i => a1 i * a4 i) ix q)]) ∧ Below w.heap.size w w' := by
  have H := Lib.hid h
  have H2 := Lib.hid h2
  have HI := Lib.hid hix
  have HB := Lib.hid hb
  clear h h2 hix hb
  go_enter Tryz.func74, Tryz.ntmps74
  go_wp2
  go_loopw [7, 8, 9, 15] (fun u v x i wr => ∃ (k : Nat) (m t o : Int), k ≤ q ∧ i = .int .i64 k ∧ u = .int .i64 m ∧ v = .int .i64 t ∧ x = .int .i64 o ∧ Hid (m = sumX a1 ix k) ∧ Hid (t = sumX (fun i => a1 i * a3 i) ix k) ∧ Hid (o = sumX (fun i => a1 i * a4 i) ix k) ∧ Below w.heap.size w wr) (fun _ _ _ i _ => q - (intOf i).toNat)
  case atStart => exact ⟨0, 0, 0, 0, by omega, rfl, rfl, rfl, rfl, Lib.hid rfl, Lib.hid rfl, Lib.hid rfl, Below.refl _ _⟩
  case round =>
    obtain ⟨k, m, t, o, hk, rfl, rfl, rfl, rfl, hm, ht, ho, hbr⟩ := hrel
    by_cases hlt : k < q
    · obtain ⟨bb, ob, rfl, hrow2⟩ := H2.out (by omega)
      have e0 := cell_keep hbr (hrow2 k hlt)
      obtain ⟨r, hr⟩ : ∃ r, r = ix k := ⟨_, rfl⟩
      have hrn : r < n := by rw [hr]; exact HI.out k hlt
      have e1 : wr.cell? ⟨bb, ob + k, none⟩ = some (.int .i64 (r : Int)) := by rw [hr]; exact e0
      obtain ⟨b, o2, rfl, hrow⟩ := H.out (by omega)
      obtain ⟨c0, c1, c2, c3, c4⟩ := (hrow r hrn).below hbr (Nat.le_refl _)
      have HR := Lib.hid hrow
      have HR2 := Lib.hid hrow2
      obtain ⟨g1, g2, g3⟩ := HB.out r hrn
      obtain ⟨x1, hx1⟩ : ∃ x, x = a1 r := ⟨_, rfl⟩
      obtain ⟨x3, hx3⟩ : ∃ x, x = a3 r := ⟨_, rfl⟩
      obtain ⟨x4, hx4⟩ : ∃ x, x = a4 r := ⟨_, rfl⟩
      rw [← hx1] at c1 g1
      rw [← hx3] at c3 g2
      rw [← hx4] at c4 g3
      have s1 := sumX_le (p := a1) (ix := ix) (M := 20000000) (q := q) (fun t ht => (HB.out _ (HI.out t ht)).1) (by omega) k (by omega)
      have s2 := sumX_le (p := fun i => a1 i * a3 i) (ix := ix) (M := 20000000000000) (q := q) (fun t ht => mul_le6 (HB.out _ (HI.out t ht)).1 (HB.out _ (HI.out t ht)).2.1) (by omega) k (by omega)
      have s3 := sumX_le (p := fun i => a1 i * a4 i) (ix := ix) (M := 20000000000000) (q := q) (fun t ht => mul_le6 (HB.out _ (HI.out t ht)).1 (HB.out _ (HI.out t ht)).2.2) (by omega) k (by omega)
      rw [← hm.out] at s1
      rw [← ht.out] at s2
      rw [← ho.out] at s3
      have n1 : Hid (m + x1 = sumX a1 ix (k + 1)) := Lib.hid (by rw [hm.out, hx1, hr]; rfl)
      have n2 : Hid (t + x1 * x3 = sumX (fun i => a1 i * a3 i) ix (k + 1)) := Lib.hid (by rw [ht.out, hx1, hx3, hr]; rfl)
      have n3 : Hid (o + x1 * x4 = sumX (fun i => a1 i * a4 i) ix (k + 1)) := Lib.hid (by rw [ho.out, hx1, hx4, hr]; rfl)
      have p1 := mul_le6 g1 g2
      have p2 := mul_le6 g1 g3
      clear hrow hrow2 hr e0 hx1 hx3 hx4 hm ht ho
      go_wp2
      go_roundw
      case rel => exact ⟨k + 1, m + x1, t + x1 * x3, o + x1 * x4, by omega, by go_num, rfl, rfl, rfl, n1, n2, n3, hbr.alloc hbr.size _⟩
      case measure => simp [intOf]; omega
    · obtain rfl : k = q := by omega
      go_wp2
      refine bodyPost_ret (v := .tuple #[.int .i64 m, .int .i64 t, .int .i64 o]) (by simp [results, Tryz.results74, go_sem]) rfl ?_
      exact ⟨by rw [hm.out, ht.out, ho.out], hbr⟩
/-- the metal of a melt whose ingots exist, and the most of it -/
def metV (s0 : Nat → ByteArray) (n : Nat) (a1 : Nat → Int) (ss : Nat → ByteArray) (q : Nat) : Int := sumX a1 (fun t => mIx s0 n (ss t)) q
def mostV (s0 : Nat → ByteArray) (n : Nat) (a1 : Nat → Int) (ss : Nat → ByteArray) (q : Nat) : Int := metV s0 n a1 ss q - nr (metV s0 n a1 ss q * 20000) 1000000
theorem mIx_all {s0 : Nat → ByteArray} {n : Nat} {ss : Nat → ByteArray} {q : Nat} (h : allHave s0 n ss q = true) : ∀ t, t < q → mIx s0 n (ss t) < n := fun t ht => (mIx_of (allB_of h t ht)).1
theorem metV_le {s0 : Nat → ByteArray} {n : Nat} {a1 a3 a4 : Nat → Int} {ss : Nat → ByteArray} {q : Nat} (h : allHave s0 n ss q = true) (hb : IngB n a1 a3 a4) (hq : q ≤ 16) : 0 ≤ metV s0 n a1 ss q ∧ metV s0 n a1 ss q ≤ 320000000 := by
  have := sumX_le (p := a1) (ix := fun t => mIx s0 n (ss t)) (M := 20000000) (q := q) (fun t ht => (hb _ (mIx_all h t ht)).1) (by omega) q (Nat.le_refl _)
  unfold metV
  omega
theorem nr_bound (M : Int) (h : 0 ≤ M ∧ M ≤ 320000000) : 0 ≤ nr (M * 20000) 1000000 ∧ nr (M * 20000) 1000000 ≤ 320000000 := by
  unfold nr
  omega
set_option maxHeartbeats 4000000 in
theorem metalOf_calls (A : Option Addr) (n c : Nat) (s0 : Nat → ByteArray) (a1 a2 a3 a4 : Nat → Int) (s : ByteArray) (AK : Option Addr) (q CK : Nat) (ss : Nat → ByteArray) (ma : Int) (w : World) (h : IngotRow w A n s0 a1 a2 a3 a4) (hn : n ≤ 1048576) (hs : Srt s0 n) (h2 : StrRow w AK q ss) (hq : q ≤ 16) (hall : allHave s0 n ss q = true) (hb : IngB n a1 a3 a4) :
    Calls Tryz.prog 89 #[.slice A n c, .agg #[.string s, .slice AK q CK, .int .i64 ma]] w fun e w' => e = .returned (.int .i64 (metV s0 n a1 ss q)) ∧ Below w.heap.size w w' := by
  have hal := (Below.refl w.heap.size w).alloc (Nat.le_refl _) (.cells #[.string s, .slice AK q CK, .int .i64 ma] 66)
  have HAL := Lib.hid hal
  have H := Lib.hid h
  have HC := Lib.hid (choiceOf_calls A n c s0 a1 a2 a3 a4 s AK q CK ss ma _ (h.below hal (Nat.le_refl _)) hn hs (h2.keep hal) (by omega))
  have HA := Lib.hid hall
  have HB := Lib.hid hb
  clear hal h h2 hs hall hb
  go_enter Tryz.func89, Tryz.ntmps89
  go_wp2_with fail
  go_at_call 50
  with_reducible refine HC.out.mono ?_
  rintro e w1 ⟨v, rfl, hv, hb1⟩
  obtain ⟨B, d, rfl, hrow⟩ := hv HA.out
  have hbr := HAL.out.trans (hb1.mono HAL.out.size)
  have HS := Lib.hid (sums_calls A n c s0 a1 a2 a3 a4 B q d (fun t => mIx s0 n (ss t)) w1 (H.out.below hbr (Nat.le_refl _)) hn hrow hq (mIx_all HA.out) HB.out)
  rw [HA.out]
  clear hv hrow hb1 HC
  go_wp2_with (go_at_call 74; with_reducible refine HS.out.mono ?_; rintro e w2 ⟨rfl, hb2⟩; have hbr2 := hbr.trans (hb2.mono hbr.size); clear hb2)
  go_ret
  exact ⟨rfl, hbr2⟩
set_option maxHeartbeats 4000000 in
theorem mostFrom_calls (A : Option Addr) (n c : Nat) (s0 : Nat → ByteArray) (a1 a2 a3 a4 : Nat → Int) (s : ByteArray) (AK : Option Addr) (q CK : Nat) (ss : Nat → ByteArray) (ma : Int) (w : World) (h : IngotRow w A n s0 a1 a2 a3 a4) (hn : n ≤ 1048576) (hs : Srt s0 n) (h2 : StrRow w AK q ss) (hq : q ≤ 16) (hall : allHave s0 n ss q = true) (hb : IngB n a1 a3 a4) :
    Calls Tryz.prog 65 #[.slice A n c, .agg #[.string s, .slice AK q CK, .int .i64 ma]] w fun e w' => e = .returned (.int .i64 (mostV s0 n a1 ss q)) ∧ Below w.heap.size w w' := by
  have hal := (Below.refl w.heap.size w).alloc (Nat.le_refl _) (.cells #[.string s, .slice AK q CK, .int .i64 ma] 66)
  have HAL := Lib.hid hal
  have HC := Lib.hid (metalOf_calls A n c s0 a1 a2 a3 a4 s AK q CK ss ma _ (h.below hal (Nat.le_refl _)) hn hs (h2.keep hal) hq hall hb)
  have hm := metV_le hall hb hq
  unfold mostV
  generalize metV s0 n a1 ss q = M at *
  have hnr := nr_bound M hm
  clear hal h h2 hs hall hb
  go_enter Tryz.func65, Tryz.ntmps65
  go_wp2_with fail
  go_at_call 89
  with_reducible refine HC.out.mono ?_
  rintro e w1 ⟨rfl, hb1⟩
  have hbr := HAL.out.trans (hb1.mono HAL.out.size)
  clear hb1 HC
  go_wp2_with (go_at_call 90; refine (nearest_calls _ _ _ (by omega) (by omega) (by omega) (by omega)).mono ?_; rintro e w2 ⟨rfl, nd, rfl⟩; have hbr2 := below_drewN hbr nd)
  go_ret
  exact ⟨rfl, hbr2⟩
set_option maxRecDepth 20000 in
set_option maxHeartbeats 4000000 in
theorem sMetal_calls (A : Option Addr) (n c : Nat) (s0 : Nat → ByteArray) (a1 a2 a3 a4 : Nat → Int) (b o : Nat) (x : MeltV) (w : World) (h : IngotRow w A n s0 a1 a2 a3 a4) (hn : n ≤ 1048576) (hs : Srt s0 n) (h2 : MeltAt w b o x) (hq : x.n ≤ 16) (hall : allHave s0 n x.ss x.n = true) (hb : IngB n a1 a3 a4) :
    Calls Tryz.prog 114 #[.slice A n c, .pointer (some ⟨b, o, none⟩)] w fun e w' => e = .returned (.int .i64 (metV s0 n a1 x.ss x.n)) ∧ Below w.heap.size w w' := by
  have HC := Lib.hid (sChosen_calls A n c s0 a1 a2 a3 a4 b o x w h hn hs h2 (by omega))
  have H := Lib.hid h
  have HB := Lib.hid hb
  have HI := Lib.hid (mIx_all hall)
  generalize x.ss = ss at *
  generalize x.n = q at *
  have HA := Lib.hid hall
  obtain ⟨ix, hix⟩ : ∃ ix, ix = fun t => mIx s0 n (ss t) := ⟨_, rfl⟩
  have HIX := Lib.hid hix
  clear h h2 hs hall hb hix
  go_enter Tryz.func114, Tryz.ntmps114
  go_wp2_with fail
  go_at_call 127
  with_reducible refine HC.out.mono ?_
  rintro e w1 ⟨v, rfl, hv, hb1⟩
  obtain ⟨B, d, rfl, hrow⟩ := hv HA.out
  have H2 : Hid (IntRow w1 B q (fun t => (ix t : Int))) := Lib.hid (by rw [HIX.out]; exact hrow)
  rw [HA.out]
  clear hv hrow HC
  go_wp2
  go_loopw [7, 8] (fun u i wr => ∃ (k : Nat) (m : Int), k ≤ q ∧ i = .int .i64 k ∧ u = .int .i64 m ∧ Hid (m = sumX a1 ix k) ∧ Below w.heap.size w wr ∧ Below w1.heap.size w1 wr) (fun _ i _ => q - (intOf i).toNat)
  case atStart => exact ⟨0, 0, by omega, rfl, rfl, Lib.hid rfl, hb1, Below.refl _ _⟩
  case round =>
    clear hb1
    obtain ⟨k, m, hk, rfl, rfl, hm, hbr, hbr1⟩ := hrel
    by_cases hlt : k < q
    · obtain ⟨bb, ob, rfl, hrow2⟩ := H2.out (by omega)
      have e0 := cell_keep hbr1 (hrow2 k hlt)
      obtain ⟨r, hr⟩ : ∃ r, r = ix k := ⟨_, rfl⟩
      have hrn : r < n := by rw [hr, HIX.out]; exact HI.out k hlt
      have e1 : wr.cell? ⟨bb, ob + k, none⟩ = some (.int .i64 (r : Int)) := by rw [hr]; exact e0
      obtain ⟨b3, o3, rfl, hrow⟩ := H.out (by omega)
      obtain ⟨c0, c1, c2, c3, c4⟩ := (hrow r hrn).below hbr (Nat.le_refl _)
      have HR := Lib.hid hrow
      have HR2 := Lib.hid hrow2
      obtain ⟨g1, -, -⟩ := HB.out r hrn
      obtain ⟨x1, hx1⟩ : ∃ x, x = a1 r := ⟨_, rfl⟩
      rw [← hx1] at c1 g1
      have s1 := sumX_le (p := a1) (ix := ix) (M := 20000000) (q := q) (fun t ht => (HB.out _ (by rw [HIX.out]; exact HI.out t ht)).1) (by omega) k (by omega)
      rw [← hm.out] at s1
      have n1 : Hid (m + x1 = sumX a1 ix (k + 1)) := Lib.hid (by rw [hm.out, hx1, hr]; rfl)
      clear hrow hrow2 hr e0 hx1 hm
      go_wp2
      go_roundw
      case rel => exact ⟨k + 1, m + x1, by omega, by go_num, rfl, n1, hbr, hbr1⟩
      case measure => simp [intOf]; omega
    · obtain rfl : k = q := by omega
      have HM : Hid (m = metV s0 n a1 ss k) := Lib.hid (by rw [hm.out, HIX.out]; rfl)
      clear hm
      go_wp2
      go_ret
      exact ⟨ret_int HM.out, hbr⟩
set_option maxHeartbeats 4000000 in
theorem sMost_calls (A : Option Addr) (n c : Nat) (s0 : Nat → ByteArray) (a1 a2 a3 a4 : Nat → Int) (b o : Nat) (x : MeltV) (w : World) (h : IngotRow w A n s0 a1 a2 a3 a4) (hn : n ≤ 1048576) (hs : Srt s0 n) (h2 : MeltAt w b o x) (hq : x.n ≤ 16) (hall : allHave s0 n x.ss x.n = true) (hb : IngB n a1 a3 a4) :
    Calls Tryz.prog 111 #[.slice A n c, .pointer (some ⟨b, o, none⟩)] w fun e w' => e = .returned (.int .i64 (mostV s0 n a1 x.ss x.n)) ∧ Below w.heap.size w w' := by
  have HC := Lib.hid (sMetal_calls A n c s0 a1 a2 a3 a4 b o x w h hn hs h2 hq hall hb)
  have hm := metV_le hall hb hq
  unfold mostV
  generalize metV s0 n a1 x.ss x.n = M at *
  have hnr := nr_bound M hm
  clear h h2 hs hall hb
  go_enter Tryz.func111, Tryz.ntmps111
  go_wp2_with fail
  go_at_call 114
  with_reducible refine HC.out.mono ?_
  rintro e w1 ⟨rfl, hb1⟩
  clear HC
  go_wp2_with (go_at_call 128; refine (div_calls _ _ _ (by omega) (by omega) (by omega) (by omega)).mono ?_; rintro e w2 ⟨rfl, rfl⟩)
  go_ret
  exact ⟨rfl, hb1⟩
end Go.Proofs.YticnpibkpfpojaaGreat
