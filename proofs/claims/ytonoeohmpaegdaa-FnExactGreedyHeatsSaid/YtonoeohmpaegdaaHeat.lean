/- Heats in a list: how they read, their size, copy and comparison. -/
import Derived.Test.YtonoeohmpaegdaaPred
import Derived.Test.YtonoeohmpaegdaaRowBase
import Derived.Test.YtonoeohmpaegdaaFrame
import Derived.Deep.RegionHeld3
import Derived.Handy
import Derived.KernelRfl
import Derived.ShutString
import Derived.ChangeShapes
namespace Go.Proofs.Ytonoeohmpaegdaa
set_option linter.unusedVariables false
open Go.RowKit

set_option maxHeartbeats 400000 in
theorem eqHeat_calls (a0 : Int) (a1 : Int) (a2 : Int) (a3 : Int) (w : World) :
    Calls Try.prog 69 #[.agg #[.int .i64 a0, .int .i64 a1, .int .i64 a2, .int .i64 a3], .agg #[.int .i64 a0, .int .i64 a1, .int .i64 a2, .int .i64 a3]] w fun e w' => e = .returned (.bool true) ∧ Below w.heap.size w w' := by
  go_enter Try.func69, Try.ntmps69
  go_wp2
  go_ret
  exact ⟨rfl, ((Below.refl _ _).alloc (Nat.le_refl _) _).alloc (by simp) _⟩
/-- element of type Heat at ⟨b, o⟩ -/
def HeatAt (w : World) (b o : Nat) (a0 : Int) (a1 : Int) (a2 : Int) (a3 : Int) : Prop := w.cell? ⟨b, o, none⟩ = some (.int .i64 a0) ∧ w.cell? ⟨b, o + 1, none⟩ = some (.int .i64 a1) ∧ w.cell? ⟨b, o + 2, none⟩ = some (.int .i64 a2) ∧ w.cell? ⟨b, o + 3, none⟩ = some (.int .i64 a3)
/-- the slice at A reads as n elements -/
def HeatRow (w : World) (A : Option Addr) (n : Nat) (a0 : Nat → Int) (a1 : Nat → Int) (a2 : Nat → Int) (a3 : Nat → Int) : Prop := 0 < n → ∃ b o, A = some ⟨b, o, none⟩ ∧ ∀ i, i < n → HeatAt w b (o + i * 4) (a0 i) (a1 i) (a2 i) (a3 i)
theorem HeatAt.lt {w : World} {b o : Nat} {a0 : Int} {a1 : Int} {a2 : Int} {a3 : Int} (h : HeatAt w b o a0 a1 a2 a3) : b < w.heap.size := cell_lt h.1
theorem HeatAt.below {w w' : World} {b o B : Nat} {a0 : Int} {a1 : Int} {a2 : Int} {a3 : Int} (h : HeatAt w b o a0 a1 a2 a3) (hb : Below B w w') (hB : w.heap.size ≤ B) : HeatAt w' b o a0 a1 a2 a3 :=
  ⟨(hb.cell (p := ⟨b, o, none⟩) (Nat.lt_of_lt_of_le (HeatAt.lt h) hB)).trans h.1, (hb.cell (p := ⟨b, o + 1, none⟩) (Nat.lt_of_lt_of_le (HeatAt.lt h) hB)).trans h.2.1, (hb.cell (p := ⟨b, o + 2, none⟩) (Nat.lt_of_lt_of_le (HeatAt.lt h) hB)).trans h.2.2.1, (hb.cell (p := ⟨b, o + 3, none⟩) (Nat.lt_of_lt_of_le (HeatAt.lt h) hB)).trans h.2.2.2⟩
theorem HeatRow.below {w w' : World} {A : Option Addr} {n B : Nat} {a0 : Nat → Int} {a1 : Nat → Int} {a2 : Nat → Int} {a3 : Nat → Int} (h : HeatRow w A n a0 a1 a2 a3) (hb : Below B w w') (hB : w.heap.size ≤ B) : HeatRow w' A n a0 a1 a2 a3 := fun hn => by
  obtain ⟨b, o, hA, hall⟩ := h hn
  exact ⟨b, o, hA, fun i hi => (hall i hi).below hb hB⟩
theorem HeatRow.same {w w' : World} {g q n : Nat} {a0 : Nat → Int} {a1 : Nat → Int} {a2 : Nat → Int} {a3 : Nat → Int} (h : HeatRow w (some ⟨g, q, none⟩) n a0 a1 a2 a3) (hb : w'.heap[g]? = w.heap[g]?) : HeatRow w' (some ⟨g, q, none⟩) n a0 a1 a2 a3 := fun hn => by
  obtain ⟨b, o, hA, hall⟩ := h hn
  simp only [Option.some.injEq, Addr.mk.injEq, and_true] at hA
  obtain ⟨rfl, rfl⟩ := hA
  exact ⟨g, q, rfl, fun i hi => ⟨(World.cell?_of_block (w := w) (a := ⟨g, q + i * 4, none⟩) hb).trans (hall i hi).1, (World.cell?_of_block (w := w) (a := ⟨g, q + i * 4 + 1, none⟩) hb).trans (hall i hi).2.1, (World.cell?_of_block (w := w) (a := ⟨g, q + i * 4 + 2, none⟩) hb).trans (hall i hi).2.2.1, (World.cell?_of_block (w := w) (a := ⟨g, q + i * 4 + 3, none⟩) hb).trans (hall i hi).2.2.2⟩⟩
set_option maxHeartbeats 2000000 in
theorem eqHeatS_calls (A A2 : Option Addr) (n c c2 : Nat) (a0 : Nat → Int) (a1 : Nat → Int) (a2 : Nat → Int) (a3 : Nat → Int) (w : World) (h : HeatRow w A n a0 a1 a2 a3) (h2 : HeatRow w A2 n a0 a1 a2 a3) (hn : n ≤ 1048576) :
    Calls Try.prog 24 #[.slice A n c, .slice A2 n c2] w fun e w' => e = .returned (.bool true) ∧ Below w.heap.size w w' := by
  have H := Lib.hid h
  have H2 := Lib.hid h2
  clear h h2
  go_enter Try.func24, Try.ntmps24
  go_wp2
  go_loopw [5] (fun i wr => ∃ k : Nat, k ≤ n ∧ i = .int .i64 k ∧ Below w.heap.size w wr) (fun i _ => n - (intOf i).toNat)
  case atStart => exact ⟨0, by omega, rfl, Below.refl _ _⟩
  case round =>
    obtain ⟨k, hk, rfl, hbr⟩ := hrel
    by_cases hlt : k < n
    · obtain ⟨b, o, rfl, hrow⟩ := H.out (by omega)
      obtain ⟨b2, o2, rfl, hrow2⟩ := H2.out (by omega)
      have hbw := (hrow k hlt).lt
      have hbw2 := (hrow2 k hlt).lt
      obtain ⟨c0, c1, c2, c3⟩ := (hrow k hlt).below hbr (Nat.le_refl _)
      obtain ⟨g0, g1, g2, g3⟩ := (hrow2 k hlt).below hbr (Nat.le_refl _)
      have HR := Lib.hid hrow
      have HR2 := Lib.hid hrow2
      clear hrow hrow2
      go_wp2_with fail
      go_region_held3 (fun w' => Below w.heap.size w w' ∧ w'.cell? ⟨b, o + k * 4, none⟩ = some (.int .i64 (a0 k)) ∧ w'.cell? ⟨b, o + k * 4 + 1, none⟩ = some (.int .i64 (a1 k)) ∧ w'.cell? ⟨b, o + k * 4 + 2, none⟩ = some (.int .i64 (a2 k)) ∧ w'.cell? ⟨b, o + k * 4 + 3, none⟩ = some (.int .i64 (a3 k)) ∧ w'.cell? ⟨b2, o2 + k * 4, none⟩ = some (.int .i64 (a0 k)) ∧ w'.cell? ⟨b2, o2 + k * 4 + 1, none⟩ = some (.int .i64 (a1 k)) ∧ w'.cell? ⟨b2, o2 + k * 4 + 2, none⟩ = some (.int .i64 (a2 k)) ∧ w'.cell? ⟨b2, o2 + k * 4 + 3, none⟩ = some (.int .i64 (a3 k)))
        (first
          | exact ⟨hbr.drew, c0, c1, c2, c3, g0, g1, g2, g3⟩
          | assumption
          | (obtain ⟨q0, d0, d1, d2, d3, e0, e1, e2, e3⟩ := ‹Below _ _ _ ∧ _›; exact ⟨q0.trans (hb.mono q0.size), (hb.cell (p := ⟨_, _, none⟩) (Nat.lt_of_lt_of_le hbw q0.size)).trans d0, (hb.cell (p := ⟨_, _, none⟩) (Nat.lt_of_lt_of_le hbw q0.size)).trans d1, (hb.cell (p := ⟨_, _, none⟩) (Nat.lt_of_lt_of_le hbw q0.size)).trans d2, (hb.cell (p := ⟨_, _, none⟩) (Nat.lt_of_lt_of_le hbw q0.size)).trans d3, (hb.cell (p := ⟨_, _, none⟩) (Nat.lt_of_lt_of_le hbw2 q0.size)).trans e0, (hb.cell (p := ⟨_, _, none⟩) (Nat.lt_of_lt_of_le hbw2 q0.size)).trans e1, (hb.cell (p := ⟨_, _, none⟩) (Nat.lt_of_lt_of_le hbw2 q0.size)).trans e2, (hb.cell (p := ⟨_, _, none⟩) (Nat.lt_of_lt_of_le hbw2 q0.size)).trans e3⟩))
        (first
          | (go_at_call 69; refine (eqHeat_calls _ _ _ _ _).mono ?_; rintro e w1 ⟨rfl, hb⟩))
      all_goals
        have hbr2 := (‹Below _ _ _ ∧ _›).1
        go_wp2
        go_roundw
        case rel => exact ⟨k + 1, by omega, by go_num, hbr2⟩
        case measure => simp [intOf]; omega
    · obtain rfl : k = n := by omega
      go_wp2
      go_ret
      exact ⟨rfl, hbr⟩
end Go.Proofs.Ytonoeohmpaegdaa
