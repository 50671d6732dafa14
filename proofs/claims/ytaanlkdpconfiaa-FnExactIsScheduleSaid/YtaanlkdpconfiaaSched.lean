/- Heats behind one another: which pours they have, from when crucibles are free, which heat is possible (the program's way). -/
import Derived.Test.YtaanlkdpconfiaaAny
import Derived.Test.YtaanlkdpconfiaaHeat
import Derived.Test.YtaanlkdpconfiaaPours
import Derived.Test.YtaanlkdpconfiaaCrucs
import Derived.Deep.DeepCutAuto
namespace Go.Proofs.Ytaanlkdpconfiaa
set_option linter.unusedVariables false
open Go.RowKit


def fa (hc he : Nat → Int) (f0 c : Int) : Nat → Int
  | 0 => f0
  | j + 1 => if (hc j == c) = true then he j else fa hc he f0 c j
set_option maxHeartbeats 1000000 in
theorem hasPour1_calls (g : Nat) (x y0 y1 y2 y3 : Int) (w : World) (hx : w.cell? ⟨g, 0, none⟩ = some (.int .i64 x)) :
    Calls Try.prog 193 #[.agg #[.int .i64 y0, .int .i64 y1, .int .i64 y2, .int .i64 y3], .pointer (some ⟨g, 0, none⟩)] w fun e w' => e = .returned (.bool (y0 == x)) ∧ Below w.heap.size w w' := by
  have hlt := cell_lt hx
  go_enter Try.func193, Try.ntmps193
  go_wp2
  go_ret
  exact ⟨rfl, (Below.refl _ _).alloc (Nat.le_refl _) _⟩
set_option maxHeartbeats 1000000 in
theorem anyHeat_index (A : Option Addr) (n c : Nat) (a0 a1 a2 a3 : Nat → Int) (g : Nat) (p : Nat → Bool) (w : World) (h : HeatRow w A n a0 a1 a2 a3) (hn : n ≤ 1048576) (hp : ∀ k W, k < n → Below w.heap.size w W → Calls Try.prog 193 #[.agg #[.int .i64 (a0 k), .int .i64 (a1 k), .int .i64 (a2 k), .int .i64 (a3 k)], .pointer (some ⟨g, 0, none⟩)] W fun e w' => e = .returned (.bool (p k)) ∧ Below W.heap.size W w') :
    Calls Try.prog 199 #[.slice A n c, .func (.func 193) #[] #[.pointer (some ⟨g, 0, none⟩)]] w fun e w' => (∃ x : Int, decide (0 ≤ x) = anyB p n ∧ e = .returned (.int .i64 x)) ∧ Below w.heap.size w w' := by
  have H := Lib.hid h
  have HP := Lib.hid hp
  generalize hres : anyB p n = R
  have HRES := Lib.hid hres
  clear h hp hres
  go_enter Try.func199, Try.ntmps199
  go_wp2
  go_loopw [8] (fun i wr => ∃ k : Nat, k ≤ n ∧ i = .int .i64 k ∧ Hid (allB (fun i => !p i) k = true) ∧ Below w.heap.size w wr) (fun i _ => n - (intOf i).toNat)
  case atStart => exact ⟨0, by omega, rfl, rfl, Below.refl _ _⟩
  case round =>
    obtain ⟨k, hk, rfl, hgood, hbr⟩ := hrel
    by_cases hlt : k < n
    · obtain ⟨b, o, rfl, hrow⟩ := H.out (by omega)
      obtain ⟨c0, c1, c2, c3⟩ := (hrow k hlt).below hbr (Nat.le_refl _)
      have HR := Lib.hid hrow
      clear hrow
      have HC := Lib.hid (HP.out k wr hlt hbr)
      cases q1 : p k
      · rw [q1] at HC
        go_wp2_with (go_at_call 193; with_reducible refine HC.out.mono ?_; rintro e w1 ⟨rfl, hb⟩; have hbr2 := hbr.trans (hb.mono hbr.size); clear hb)
        go_roundw
        case rel => exact ⟨k + 1, by omega, by go_num, Lib.hid (by rw [show allB (fun i => !p i) (k + 1) = (allB (fun i => !p i) k && !p k) from rfl, hgood.out, q1]; rfl), hbr2⟩
        case measure => simp [intOf]; omega
      · rw [q1] at HC
        go_wp2_with (go_at_call 193; with_reducible refine HC.out.mono ?_; rintro e w1 ⟨rfl, hb⟩; have hbr2 := hbr.trans (hb.mono hbr.size); clear hb)
        go_ret
        exact ⟨⟨k, by rw [← HRES.out, anyB_hit hlt q1]; exact decide_eq_true (by omega), rfl⟩, hbr2⟩
    · obtain rfl : k = n := by omega
      go_wp2
      go_ret
      exact ⟨⟨-1, by rw [← HRES.out]; simp [anyB, hgood.out], rfl⟩, hbr⟩
set_option maxHeartbeats 400000 in
theorem anyHeat (A : Option Addr) (n c : Nat) (a0 a1 a2 a3 : Nat → Int) (g : Nat) (p : Nat → Bool) (w : World) (h : HeatRow w A n a0 a1 a2 a3) (hn : n ≤ 1048576) (hp : ∀ k W, k < n → Below w.heap.size w W → Calls Try.prog 193 #[.agg #[.int .i64 (a0 k), .int .i64 (a1 k), .int .i64 (a2 k), .int .i64 (a3 k)], .pointer (some ⟨g, 0, none⟩)] W fun e w' => e = .returned (.bool (p k)) ∧ Below W.heap.size W w') :
    Calls Try.prog 192 #[.slice A n c, .func (.func 193) #[] #[.pointer (some ⟨g, 0, none⟩)]] w fun e w' => e = .returned (.bool (anyB p n)) ∧ Below w.heap.size w w' := by
  go_enter Try.func192, Try.ntmps192
  go_wp2_with (go_at_call 199; refine (anyHeat_index A n c a0 a1 a2 a3 g p w h hn hp).mono ?_; rintro e w1 ⟨⟨x, hx, rfl⟩, hb⟩)
  go_ret
  exact ⟨by first | rfl | exact ret_bool hx, hb⟩
set_option maxHeartbeats 1000000 in
theorem hasPour_calls (A : Option Addr) (n c : Nat) (a0 a1 a2 a3 : Nat → Int) (x : Int) (w : World) (h : HeatRow w A n a0 a1 a2 a3) (hn : n ≤ 1048576) :
    Calls Try.prog 174 #[.slice A n c, .int .i64 x] w fun e w' => e = .returned (.bool (anyB (fun i => a0 i == x) n)) ∧ Below w.heap.size w w' := by
  have hal := (Below.refl w.heap.size w).alloc (Nat.le_refl _) (.cells #[.int .i64 x] 2)
  have HP := Lib.hid (anyHeat A n c a0 a1 a2 a3 w.heap.size (fun i => a0 i == x) _ (h.below hal (Nat.le_refl _)) hn (fun k W hk hb => hasPour1_calls _ x (a0 k) (a1 k) (a2 k) (a3 k) W ((hb.cell (p := ⟨w.heap.size, 0, none⟩) (by simp)).trans (by simp))))
  have HAL := Lib.hid hal
  clear hal
  go_enter Try.func174, Try.ntmps174
  go_wp2_with (go_at_call 192; refine HP.out.mono ?_; rintro e w1 ⟨rfl, hb⟩)
  go_ret
  exact ⟨rfl, HAL.out.trans (hb.mono HAL.out.size)⟩
set_option maxHeartbeats 2000000 in
theorem freeAfter_calls (A : Option Addr) (m c : Nat) (cs : Nat → ByteArray) (cc ch cf : Nat → Int) (B : Option Addr) (n c2 : Nat) (a0 a1 a2 a3 : Nat → Int) (x : Nat) (w : World) (h : CrucibleRow w A m cs cc ch cf) (h2 : HeatRow w B n a0 a1 a2 a3) (hx : x < m) (hm : m ≤ 1048576) (hn : n ≤ 1048576) :
    Calls Try.prog 106 #[.slice A m c, .slice B n c2, .int .i64 x] w fun e w' => e = .returned (.int .i64 (fa a1 a3 (cf x) x n)) ∧ Below w.heap.size w w' := by
  obtain ⟨b, o, rfl, hrow⟩ := h (by omega)
  obtain ⟨x0, x1, x2, x3⟩ := hrow x hx
  have H2 := Lib.hid h2
  have HR := Lib.hid hrow
  clear h h2 hrow
  go_enter Try.func106, Try.ntmps106
  go_wp2
  go_loopw [17, 7] (fun i v wr => ∃ (k : Nat) (y : Int), k ≤ n ∧ i = .int .i64 k ∧ v = .int .i64 y ∧ Hid (y = fa a1 a3 (cf x) x k) ∧ Below w.heap.size w wr) (fun i _ _ => n - (intOf i).toNat)
  case atStart => exact ⟨0, cf x, by omega, rfl, rfl, rfl, Below.refl _ _⟩
  case round =>
    obtain ⟨k, y, hk, rfl, rfl, hy, hbr⟩ := hrel
    by_cases hlt : k < n
    · obtain ⟨b2, o2, rfl, hrow2⟩ := H2.out (by omega)
      obtain ⟨c0, c1, c2, c3⟩ := (hrow2 k hlt).below hbr (Nat.le_refl _)
      have HR2 := Lib.hid hrow2
      clear hrow2
      have hbr2 := hbr.alloc hbr.size (.cells #[.int .i64 (a0 k), .int .i64 (a1 k), .int .i64 (a2 k), .int .i64 (a3 k)] 108)
      have HB2 := Lib.hid hbr2
      clear hbr2
      cases q1 : (a1 k == (x : Int))
      · have hs : Hid (y = fa a1 a3 (cf x) x (k + 1)) := Lib.hid (by rw [hy.out, fa, q1]; rfl)
        go_wp2
        go_roundw
        case rel => exact ⟨k + 1, y, by omega, by go_num, rfl, hs, HB2.out⟩
        case measure => simp [intOf]; omega
      · have hs : Hid (a3 k = fa a1 a3 (cf x) x (k + 1)) := Lib.hid (by rw [fa, q1]; rfl)
        go_wp2
        go_roundw
        case rel => exact ⟨k + 1, a3 k, by omega, by go_num, rfl, hs, HB2.out⟩
        case measure => simp [intOf]; omega
    · obtain rfl : k = n := by omega
      go_wp2
      go_ret
      exact ⟨ret_int hy.out, hbr⟩
def possX (n m : Nat) (pm pr pd cc ch cf a0 a1 a3 : Nat → Int) (k : Nat) (x0 x1 x2 x3 : Int) : Bool :=
  (inB x0 0 ((n : Int) - 1) && (inB x1 0 ((m : Int) - 1) && !anyB (fun i => a0 i == x0) k)) && (decide (pm x0.toNat ≤ cc x1.toNat) && (inB x2 (fa a1 a3 (cf x1.toNat) x1 k) 10000 && ((x3 == x2 + ch x1.toNat) && inB x3 (pr x0.toNat) (pd x0.toNat))))
theorem HeatRow.take {w : World} {A : Option Addr} {n m : Nat} {a0 a1 a2 a3 : Nat → Int} (h : HeatRow w A n a0 a1 a2 a3) (hm : m ≤ n) : HeatRow w A m a0 a1 a2 a3 := fun h0 => by
  obtain ⟨b, o, hA, hall⟩ := h (by omega)
  exact ⟨b, o, hA, fun i hi => hall i (by omega)⟩
theorem sizePours_calls (A : Option Addr) (n c : Nat) (w : World) (hn : n ≤ 1048576) :
    Calls Try.prog 173 #[.slice A n c] w fun e w' => e = .returned (.int .i64 n) ∧ w = w' := by
  go_enter Try.func173, Try.ntmps173
  go_wp2
  go_ret
  exact ⟨rfl, rfl⟩
theorem sizeCrucs_calls (A : Option Addr) (n c : Nat) (w : World) (hn : n ≤ 1048576) :
    Calls Try.prog 104 #[.slice A n c] w fun e w' => e = .returned (.int .i64 n) ∧ w = w' := by
  go_enter Try.func104, Try.ntmps104
  go_wp2
  go_ret
  exact ⟨rfl, rfl⟩
end Go.Proofs.Ytaanlkdpconfiaa
