/- The metal of a choice of ingots, and the greatest mass of a melt, in the program and in the reference. -/
import Derived.Test.YtkilfapknemjhaaIngotS
namespace Go.Proofs.Ytkilfapknemjhaa
set_option linter.unusedVariables false
open Go.RowKit

def sumX (p : Nat → Int) (ix : Nat → Nat) : Nat → Int
  | 0 => 0
  | k + 1 => sumX p ix k + p (ix k)
theorem sumX_le {p : Nat → Int} {ix : Nat → Nat} {M : Int} {q : Nat} (h : ∀ t, t < q → 0 ≤ p (ix t) ∧ p (ix t) ≤ M) (hM : 0 ≤ M) : ∀ k, k ≤ q → 0 ≤ sumX p ix k ∧ sumX p ix k ≤ k * M
  | 0, _ => by simp [sumX]
  | k + 1, hk => by
    have ih := sumX_le h hM k (by omega)
    have h1 := h k (by omega)
    have e : ((k + 1 : Nat) : Int) * M = k * M + M := by push_cast; rw [Int.add_mul, Int.one_mul]
    rw [e]
    show 0 ≤ sumX p ix k + p (ix k) ∧ sumX p ix k + p (ix k) ≤ _
    omega
/-- the bounds of an ingot's numbers -/
def IngB (n : Nat) (a1 a3 a4 : Nat → Int) : Prop := ∀ i, i < n → (0 ≤ a1 i ∧ a1 i ≤ 20000000) ∧ (0 ≤ a3 i ∧ a3 i ≤ 1000000) ∧ (0 ≤ a4 i ∧ a4 i ≤ 1000000)
theorem mul_le6 {x y : Int} (hx : 0 ≤ x ∧ x ≤ 20000000) (hy : 0 ≤ y ∧ y ≤ 1000000) : 0 ≤ x * y ∧ x * y ≤ 20000000000000 :=
  ⟨Int.mul_nonneg hx.1 hy.1, Int.le_trans (Int.mul_le_mul hx.2 hy.2 hy.1 (by omega)) (by omega)⟩
set_option maxRecDepth 20000 in
set_option maxHeartbeats 4000000 in
theorem sums_calls (A : Option Addr) (n c : Nat) (s0 : Nat → ByteArray) (a1 a2 a3 a4 : Nat → Int) (B : Option Addr) (q d : Nat) (ix : Nat → Nat) (w : World) (h : IngotRow w A n s0 a1 a2 a3 a4) (hn : n ≤ 1048576) (h2 : IntRow w B q (fun t => (ix t : Int))) (hq : q ≤ 16) (hix : ∀ t, t < q → ix t < n) (hb : IngB n a1 a3 a4) :
    Calls Try.prog 205 #[.slice A n c, .slice B q d] w fun e w' => e = .returned (.tuple #[.int .i64 (sumX a1 ix q), .int .i64 (sumX (fun i => a1 i * a3 i) ix q), .int .i64 (sumX (fun i => a1 i * a4 i) ix q)]) ∧ Below w.heap.size w w' := by
  have H := Lib.hid h
  have H2 := Lib.hid h2
  have HI := Lib.hid hix
  have HB := Lib.hid hb
  clear h h2 hix hb
  go_enter Try.func205, Try.ntmps205
  go_wp2
  go_loopw [7, 8, 9, 15] (fun u v x i wr => ∃ (k : Nat) (m t o : Int), k ≤ q ∧ i = .int .i64 k ∧ u = .int .i64 m ∧ v = .int .i64 t ∧ x = .int .i64 o ∧ Hid (m = sumX a1 ix k) ∧ Hid (t = sumX (fun i => a1 i * a3 i) ix k) ∧ Hid (o = sumX (fun i => a1 i * a4 i) ix k) ∧ Below w.heap.size w wr) (fun _ _ _ i _ => q - (intOf i).toNat)
  case atStart => exact ⟨0, 0, 0, 0, by omega, rfl, rfl, rfl, rfl, Lib.hid rfl, Lib.hid rfl, Lib.hid rfl, Below.refl _ _⟩
  case round =>
    obtain ⟨k, m, t, o, hk, rfl, rfl, rfl, rfl, hm, ht, ho, hbr⟩ := hrel
    by_cases hlt : k < q
    · obtain ⟨bb, ob, rfl, hrow2⟩ := H2.out (by omega)
      have e0 := cell_keep hbr (hrow2 k hlt)
      obtain ⟨r, hr⟩ : ∃ r, r = ix k := ⟨_, rfl⟩
      have hrn : r < n := by rw [hr]; exact HI.out k hlt
      have e1 : wr.cell? ⟨bb, ob + k, none⟩ = some (.int .i64 (r : Int)) := by rw [hr]; exact e0
      obtain ⟨b, o2, rfl, hrow⟩ := H.out (by omega)
      obtain ⟨c0, c1, c2, c3, c4⟩ := (hrow r hrn).below hbr (Nat.le_refl _)
      have HR := Lib.hid hrow
      have HR2 := Lib.hid hrow2
      obtain ⟨g1, g2, g3⟩ := HB.out r hrn
      obtain ⟨x1, hx1⟩ : ∃ x, x = a1 r := ⟨_, rfl⟩
      obtain ⟨x3, hx3⟩ : ∃ x, x = a3 r := ⟨_, rfl⟩
      obtain ⟨x4, hx4⟩ : ∃ x, x = a4 r := ⟨_, rfl⟩
      rw [← hx1] at c1 g1
      rw [← hx3] at c3 g2
      rw [← hx4] at c4 g3
      have s1 := sumX_le (p := a1) (ix := ix) (M := 20000000) (q := q) (fun t ht => (HB.out _ (HI.out t ht)).1) (by omega) k (by omega)
      have s2 := sumX_le (p := fun i => a1 i * a3 i) (ix := ix) (M := 20000000000000) (q := q) (fun t ht => mul_le6 (HB.out _ (HI.out t ht)).1 (HB.out _ (HI.out t ht)).2.1) (by omega) k (by omega)
      have s3 := sumX_le (p := fun i => a1 i * a4 i) (ix := ix) (M := 20000000000000) (q := q) (fun t ht => mul_le6 (HB.out _ (HI.out t ht)).1 (HB.out _ (HI.out t ht)).2.2) (by omega) k (by omega)
      rw [← hm.out] at s1
      rw [← ht.out] at s2
      rw [← ho.out] at s3
      have n1 : Hid (m + x1 = sumX a1 ix (k + 1)) := Lib.hid (by rw [hm.out, hx1, hr]; rfl)
      have n2 : Hid (t + x1 * x3 = sumX (fun i => a1 i * a3 i) ix (k + 1)) := Lib.hid (by rw [ht.out, hx1, hx3, hr]; rfl)
      have n3 : Hid (o + x1 * x4 = sumX (fun i => a1 i * a4 i) ix (k + 1)) := Lib.hid (by rw [ho.out, hx1, hx4, hr]; rfl)
      have p1 := mul_le6 g1 g2
      have p2 := mul_le6 g1 g3
      clear hrow hrow2 hr e0 hx1 hx3 hx4 hm ht ho
      go_wp2
      go_roundw
      case rel => exact ⟨k + 1, m + x1, t + x1 * x3, o + x1 * x4, by omega, by go_num, rfl, rfl, rfl, n1, n2, n3, hbr.alloc hbr.size _⟩
      case measure => simp [intOf]; omega
    · obtain rfl : k = q := by omega
      go_wp2
      refine bodyPost_ret (v := .tuple #[.int .i64 m, .int .i64 t, .int .i64 o]) (by simp [results, Try.results205, go_sem]) rfl ?_
      exact ⟨by rw [hm.out, ht.out, ho.out], hbr⟩
/-- the metal of a melt whose ingots exist, and the most of it -/
def metV (s0 : Nat → ByteArray) (n : Nat) (a1 : Nat → Int) (ss : Nat → ByteArray) (q : Nat) : Int := sumX a1 (fun t => mIx s0 n (ss t)) q
def mostV (s0 : Nat → ByteArray) (n : Nat) (a1 : Nat → Int) (ss : Nat → ByteArray) (q : Nat) : Int := metV s0 n a1 ss q - nr (metV s0 n a1 ss q * 20000) 1000000
theorem mIx_all {s0 : Nat → ByteArray} {n : Nat} {ss : Nat → ByteArray} {q : Nat} (h : allHave s0 n ss q = true) : ∀ t, t < q → mIx s0 n (ss t) < n := fun t ht => (mIx_of (allB_of h t ht)).1
theorem metV_le {s0 : Nat → ByteArray} {n : Nat} {a1 a3 a4 : Nat → Int} {ss : Nat → ByteArray} {q : Nat} (h : allHave s0 n ss q = true) (hb : IngB n a1 a3 a4) (hq : q ≤ 16) : 0 ≤ metV s0 n a1 ss q ∧ metV s0 n a1 ss q ≤ 320000000 := by
  have := sumX_le (p := a1) (ix := fun t => mIx s0 n (ss t)) (M := 20000000) (q := q) (fun t ht => (hb _ (mIx_all h t ht)).1) (by omega) q (Nat.le_refl _)
  unfold metV
  omega
theorem nr_bound (M : Int) (h : 0 ≤ M ∧ M ≤ 320000000) : 0 ≤ nr (M * 20000) 1000000 ∧ nr (M * 20000) 1000000 ≤ 320000000 := by
  unfold nr
  omega
end Go.Proofs.Ytkilfapknemjhaa
