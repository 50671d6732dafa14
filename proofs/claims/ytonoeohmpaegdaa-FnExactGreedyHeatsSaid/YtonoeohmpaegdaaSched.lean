/- Heats behind one another: which pours they have, from when crucibles are free, which heat is possible (the program's way). -/
import Derived.Test.YtonoeohmpaegdaaAny
import Derived.Test.YtonoeohmpaegdaaHeat
import Derived.Test.YtonoeohmpaegdaaPours
import Derived.Test.YtonoeohmpaegdaaCrucs
import Derived.Deep.DeepCutAuto
namespace Go.Proofs.Ytonoeohmpaegdaa
set_option linter.unusedVariables false
open Go.RowKit


def fa (hc he : Nat → Int) (f0 c : Int) : Nat → Int
  | 0 => f0
  | j + 1 => if (hc j == c) = true then he j else fa hc he f0 c j
set_option maxHeartbeats 2000000 in
theorem freeAfter_calls (A : Option Addr) (m c : Nat) (cs : Nat → ByteArray) (cc ch cf : Nat → Int) (B : Option Addr) (n c2 : Nat) (a0 a1 a2 a3 : Nat → Int) (x : Nat) (w : World) (h : CrucibleRow w A m cs cc ch cf) (h2 : HeatRow w B n a0 a1 a2 a3) (hx : x < m) (hm : m ≤ 1048576) (hn : n ≤ 1048576) :
    Calls Try.prog 68 #[.slice A m c, .slice B n c2, .int .i64 x] w fun e w' => e = .returned (.int .i64 (fa a1 a3 (cf x) x n)) ∧ Below w.heap.size w w' := by
  obtain ⟨b, o, rfl, hrow⟩ := h (by omega)
  obtain ⟨x0, x1, x2, x3⟩ := hrow x hx
  have H2 := Lib.hid h2
  have HR := Lib.hid hrow
  clear h h2 hrow
  go_enter Try.func68, Try.ntmps68
  go_wp2
  go_loopw [17, 7] (fun i v wr => ∃ (k : Nat) (y : Int), k ≤ n ∧ i = .int .i64 k ∧ v = .int .i64 y ∧ Hid (y = fa a1 a3 (cf x) x k) ∧ Below w.heap.size w wr) (fun i _ _ => n - (intOf i).toNat)
  case atStart => exact ⟨0, cf x, by omega, rfl, rfl, rfl, Below.refl _ _⟩
  case round =>
    obtain ⟨k, y, hk, rfl, rfl, hy, hbr⟩ := hrel
    by_cases hlt : k < n
    · obtain ⟨b2, o2, rfl, hrow2⟩ := H2.out (by omega)
      obtain ⟨c0, c1, c2, c3⟩ := (hrow2 k hlt).below hbr (Nat.le_refl _)
      have HR2 := Lib.hid hrow2
      clear hrow2
      have hbr2 := hbr.alloc hbr.size (.cells #[.int .i64 (a0 k), .int .i64 (a1 k), .int .i64 (a2 k), .int .i64 (a3 k)] 105)
      have HB2 := Lib.hid hbr2
      clear hbr2
      cases q1 : (a1 k == (x : Int))
      · have hs : Hid (y = fa a1 a3 (cf x) x (k + 1)) := Lib.hid (by rw [hy.out, fa, q1]; rfl)
        go_wp2
        go_roundw
        case rel => exact ⟨k + 1, y, by omega, by go_num, rfl, hs, HB2.out⟩
        case measure => simp [intOf]; omega
      · have hs : Hid (a3 k = fa a1 a3 (cf x) x (k + 1)) := Lib.hid (by rw [fa, q1]; rfl)
        go_wp2
        go_roundw
        case rel => exact ⟨k + 1, a3 k, by omega, by go_num, rfl, hs, HB2.out⟩
        case measure => simp [intOf]; omega
    · obtain rfl : k = n := by omega
      go_wp2
      go_ret
      exact ⟨ret_int hy.out, hbr⟩
def possX (n m : Nat) (pm pr pd cc ch cf a0 a1 a3 : Nat → Int) (k : Nat) (x0 x1 x2 x3 : Int) : Bool :=
  (inB x0 0 ((n : Int) - 1) && (inB x1 0 ((m : Int) - 1) && !anyB (fun i => a0 i == x0) k)) && (decide (pm x0.toNat ≤ cc x1.toNat) && (inB x2 (fa a1 a3 (cf x1.toNat) x1 k) 10000 && ((x3 == x2 + ch x1.toNat) && inB x3 (pr x0.toNat) (pd x0.toNat))))
theorem HeatRow.take {w : World} {A : Option Addr} {n m : Nat} {a0 a1 a2 a3 : Nat → Int} (h : HeatRow w A n a0 a1 a2 a3) (hm : m ≤ n) : HeatRow w A m a0 a1 a2 a3 := fun h0 => by
  obtain ⟨b, o, hA, hall⟩ := h (by omega)
  exact ⟨b, o, hA, fun i hi => hall i (by omega)⟩
theorem sizeCrucs_calls (A : Option Addr) (n c : Nat) (w : World) (hn : n ≤ 1048576) :
    Calls Try.prog 66 #[.slice A n c] w fun e w' => e = .returned (.int .i64 n) ∧ w = w' := by
  go_enter Try.func66, Try.ntmps66
  go_wp2
  go_ret
  exact ⟨rfl, rfl⟩
end Go.Proofs.Ytonoeohmpaegdaa
