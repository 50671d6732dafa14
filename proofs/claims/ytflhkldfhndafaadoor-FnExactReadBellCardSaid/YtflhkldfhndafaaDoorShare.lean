/- Shares and lists of shares: how they read, their size, copy and comparison. -/
import Derived.Test.YtflhkldfhndafaaDoorName
import Derived.Test.YtflhkldfhndafaaDoorPred
import Derived.Test.YtflhkldfhndafaaDoorRowBase
import Derived.Test.YtflhkldfhndafaaDoorFrame
import Derived.Deep.RegionHeld3
import Derived.Handy
import Derived.KernelRfl
import Derived.ShutString
import Derived.ChangeShapes
namespace Go.Proofs.YtflhkldfhndafaaDoor
set_option linter.unusedVariables false
open Go.RowKit

set_option maxHeartbeats 400000 in
theorem eqShare_calls (s0 : ByteArray) (a1 : Int) (w : World) :
    Calls Tryd.prog 70 #[.agg #[.string s0, .int .i64 a1], .agg #[.string s0, .int .i64 a1]] w fun e w' => e = .returned (.bool true) ∧ Below w.heap.size w w' := by
  go_enter Tryd.func70, Tryd.ntmps70
  go_wp2
  go_ret
  exact ⟨rfl, ((Below.refl _ _).alloc (Nat.le_refl _) _).alloc (by simp) _⟩
/-- element of type Share at ⟨b, o⟩ -/
def ShareAt (w : World) (b o : Nat) (s0 : ByteArray) (a1 : Int) : Prop := w.cell? ⟨b, o, none⟩ = some (.string s0) ∧ w.cell? ⟨b, o + 1, none⟩ = some (.int .i64 a1)
/-- the slice at A reads as n elements -/
def ShareRow (w : World) (A : Option Addr) (n : Nat) (s0 : Nat → ByteArray) (a1 : Nat → Int) : Prop := 0 < n → ∃ b o, A = some ⟨b, o, none⟩ ∧ ∀ i, i < n → ShareAt w b (o + i * 2) (s0 i) (a1 i)
theorem ShareAt.lt {w : World} {b o : Nat} {s0 : ByteArray} {a1 : Int} (h : ShareAt w b o s0 a1) : b < w.heap.size := cell_lt h.1
theorem ShareAt.below {w w' : World} {b o B : Nat} {s0 : ByteArray} {a1 : Int} (h : ShareAt w b o s0 a1) (hb : Below B w w') (hB : w.heap.size ≤ B) : ShareAt w' b o s0 a1 :=
  ⟨(hb.cell (p := ⟨b, o, none⟩) (Nat.lt_of_lt_of_le (ShareAt.lt h) hB)).trans h.1, (hb.cell (p := ⟨b, o + 1, none⟩) (Nat.lt_of_lt_of_le (ShareAt.lt h) hB)).trans h.2⟩
theorem ShareRow.below {w w' : World} {A : Option Addr} {n B : Nat} {s0 : Nat → ByteArray} {a1 : Nat → Int} (h : ShareRow w A n s0 a1) (hb : Below B w w') (hB : w.heap.size ≤ B) : ShareRow w' A n s0 a1 := fun hn => by
  obtain ⟨b, o, hA, hall⟩ := h hn
  exact ⟨b, o, hA, fun i hi => (hall i hi).below hb hB⟩
theorem ShareRow.same {w w' : World} {g q n : Nat} {s0 : Nat → ByteArray} {a1 : Nat → Int} (h : ShareRow w (some ⟨g, q, none⟩) n s0 a1) (hb : w'.heap[g]? = w.heap[g]?) : ShareRow w' (some ⟨g, q, none⟩) n s0 a1 := fun hn => by
  obtain ⟨b, o, hA, hall⟩ := h hn
  simp only [Option.some.injEq, Addr.mk.injEq, and_true] at hA
  obtain ⟨rfl, rfl⟩ := hA
  exact ⟨g, q, rfl, fun i hi => ⟨(World.cell?_of_block (w := w) (a := ⟨g, q + i * 2, none⟩) hb).trans (hall i hi).1, (World.cell?_of_block (w := w) (a := ⟨g, q + i * 2 + 1, none⟩) hb).trans (hall i hi).2⟩⟩
set_option maxHeartbeats 2000000 in
theorem eqShareS_calls (A A2 : Option Addr) (n c c2 : Nat) (s0 : Nat → ByteArray) (a1 : Nat → Int) (w : World) (h : ShareRow w A n s0 a1) (h2 : ShareRow w A2 n s0 a1) (hn : n ≤ 1048576) :
    Calls Tryd.prog 47 #[.slice A n c, .slice A2 n c2] w fun e w' => e = .returned (.bool true) ∧ Below w.heap.size w w' := by
  have H := Lib.hid h
  have H2 := Lib.hid h2
  clear h h2
  go_enter Tryd.func47, Tryd.ntmps47
  go_wp2
  go_loopw [5] (fun i wr => ∃ k : Nat, k ≤ n ∧ i = .int .i64 k ∧ Below w.heap.size w wr) (fun i _ => n - (intOf i).toNat)
  case atStart => exact ⟨0, by omega, rfl, Below.refl _ _⟩
  case round =>
    obtain ⟨k, hk, rfl, hbr⟩ := hrel
    by_cases hlt : k < n
    · obtain ⟨b, o, rfl, hrow⟩ := H.out (by omega)
      obtain ⟨b2, o2, rfl, hrow2⟩ := H2.out (by omega)
      have hbw := (hrow k hlt).lt
      have hbw2 := (hrow2 k hlt).lt
      obtain ⟨c0, c1⟩ := (hrow k hlt).below hbr (Nat.le_refl _)
      obtain ⟨g0, g1⟩ := (hrow2 k hlt).below hbr (Nat.le_refl _)
      have HR := Lib.hid hrow
      have HR2 := Lib.hid hrow2
      clear hrow hrow2
      go_wp2_with fail
      go_region_held3 (fun w' => Below w.heap.size w w' ∧ w'.cell? ⟨b, o + k * 2, none⟩ = some (.string (s0 k)) ∧ w'.cell? ⟨b, o + k * 2 + 1, none⟩ = some (.int .i64 (a1 k)) ∧ w'.cell? ⟨b2, o2 + k * 2, none⟩ = some (.string (s0 k)) ∧ w'.cell? ⟨b2, o2 + k * 2 + 1, none⟩ = some (.int .i64 (a1 k)))
        (first
          | exact ⟨hbr.drew, c0, c1, g0, g1⟩
          | assumption
          | (obtain ⟨q0, d0, d1, e0, e1⟩ := ‹Below _ _ _ ∧ _›; exact ⟨q0.trans (hb.mono q0.size), (hb.cell (p := ⟨_, _, none⟩) (Nat.lt_of_lt_of_le hbw q0.size)).trans d0, (hb.cell (p := ⟨_, _, none⟩) (Nat.lt_of_lt_of_le hbw q0.size)).trans d1, (hb.cell (p := ⟨_, _, none⟩) (Nat.lt_of_lt_of_le hbw2 q0.size)).trans e0, (hb.cell (p := ⟨_, _, none⟩) (Nat.lt_of_lt_of_le hbw2 q0.size)).trans e1⟩))
        (first
          | (go_at_call 70; refine (eqShare_calls _ _ _).mono ?_; rintro e w1 ⟨rfl, hb⟩))
      all_goals
        have hbr2 := (‹Below _ _ _ ∧ _›).1
        go_wp2
        go_roundw
        case rel => exact ⟨k + 1, by omega, by go_num, hbr2⟩
        case measure => simp [intOf]; omega
    · obtain rfl : k = n := by omega
      go_wp2
      go_ret
      exact ⟨rfl, hbr⟩
/-- the sum of the first n -/
def sumI (f : Nat → Int) : Nat → Int
  | 0 => 0
  | n + 1 => sumI f n + f n
end Go.Proofs.YtflhkldfhndafaaDoor
