/- Heats in a list: how they read, their size, copy and comparison. -/
import Derived.Test.YtaanlkdpconfiaaPred
import Derived.Test.YtaanlkdpconfiaaRowBase
import Derived.Test.YtaanlkdpconfiaaFrame
import Derived.Deep.RegionHeld3
import Derived.Handy
import Derived.KernelRfl
import Derived.ShutString
import Derived.ChangeShapes
namespace Go.Proofs.Ytaanlkdpconfiaa
set_option linter.unusedVariables false
open Go.RowKit

set_option maxHeartbeats 400000 in
theorem toHeat_calls (a0 : Int) (a1 : Int) (a2 : Int) (a3 : Int) (w : World) :
    Calls Try.prog 73 #[.agg #[.int .i64 a0, .int .i64 a1, .int .i64 a2, .int .i64 a3]] w fun e w' => e = .returned (.agg #[.int .i64 a0, .int .i64 a1, .int .i64 a2, .int .i64 a3]) ∧ Below w.heap.size w w' := by
  go_enter Try.func73, Try.ntmps73
  go_wp2
  refine bodyPost_ret (v := .agg #[.int .i64 a0, .int .i64 a1, .int .i64 a2, .int .i64 a3]) (by simp [results, Try.results73, go_sem]) rfl ⟨rfl, ?_⟩
  go_grown
set_option maxHeartbeats 400000 in
theorem eqHeat_calls (a0 : Int) (a1 : Int) (a2 : Int) (a3 : Int) (w : World) :
    Calls Try.prog 79 #[.agg #[.int .i64 a0, .int .i64 a1, .int .i64 a2, .int .i64 a3], .agg #[.int .i64 a0, .int .i64 a1, .int .i64 a2, .int .i64 a3]] w fun e w' => e = .returned (.bool true) ∧ Below w.heap.size w w' := by
  go_enter Try.func79, Try.ntmps79
  go_wp2
  go_ret
  exact ⟨rfl, ((Below.refl _ _).alloc (Nat.le_refl _) _).alloc (by simp) _⟩
/-- element of type Heat at ⟨b, o⟩ -/
def HeatAt (w : World) (b o : Nat) (a0 : Int) (a1 : Int) (a2 : Int) (a3 : Int) : Prop := w.cell? ⟨b, o, none⟩ = some (.int .i64 a0) ∧ w.cell? ⟨b, o + 1, none⟩ = some (.int .i64 a1) ∧ w.cell? ⟨b, o + 2, none⟩ = some (.int .i64 a2) ∧ w.cell? ⟨b, o + 3, none⟩ = some (.int .i64 a3)
/-- the slice at A reads as n elements -/
def HeatRow (w : World) (A : Option Addr) (n : Nat) (a0 : Nat → Int) (a1 : Nat → Int) (a2 : Nat → Int) (a3 : Nat → Int) : Prop := 0 < n → ∃ b o, A = some ⟨b, o, none⟩ ∧ ∀ i, i < n → HeatAt w b (o + i * 4) (a0 i) (a1 i) (a2 i) (a3 i)
theorem HeatAt.lt {w : World} {b o : Nat} {a0 : Int} {a1 : Int} {a2 : Int} {a3 : Int} (h : HeatAt w b o a0 a1 a2 a3) : b < w.heap.size := cell_lt h.1
theorem HeatAt.below {w w' : World} {b o B : Nat} {a0 : Int} {a1 : Int} {a2 : Int} {a3 : Int} (h : HeatAt w b o a0 a1 a2 a3) (hb : Below B w w') (hB : w.heap.size ≤ B) : HeatAt w' b o a0 a1 a2 a3 :=
  ⟨(hb.cell (p := ⟨b, o, none⟩) (Nat.lt_of_lt_of_le (HeatAt.lt h) hB)).trans h.1, (hb.cell (p := ⟨b, o + 1, none⟩) (Nat.lt_of_lt_of_le (HeatAt.lt h) hB)).trans h.2.1, (hb.cell (p := ⟨b, o + 2, none⟩) (Nat.lt_of_lt_of_le (HeatAt.lt h) hB)).trans h.2.2.1, (hb.cell (p := ⟨b, o + 3, none⟩) (Nat.lt_of_lt_of_le (HeatAt.lt h) hB)).trans h.2.2.2⟩
theorem HeatRow.below {w w' : World} {A : Option Addr} {n B : Nat} {a0 : Nat → Int} {a1 : Nat → Int} {a2 : Nat → Int} {a3 : Nat → Int} (h : HeatRow w A n a0 a1 a2 a3) (hb : Below B w w') (hB : w.heap.size ≤ B) : HeatRow w' A n a0 a1 a2 a3 := fun hn => by
  obtain ⟨b, o, hA, hall⟩ := h hn
  exact ⟨b, o, hA, fun i hi => (hall i hi).below hb hB⟩
theorem HeatRow.same {w w' : World} {g q n : Nat} {a0 : Nat → Int} {a1 : Nat → Int} {a2 : Nat → Int} {a3 : Nat → Int} (h : HeatRow w (some ⟨g, q, none⟩) n a0 a1 a2 a3) (hb : w'.heap[g]? = w.heap[g]?) : HeatRow w' (some ⟨g, q, none⟩) n a0 a1 a2 a3 := fun hn => by
  obtain ⟨b, o, hA, hall⟩ := h hn
  simp only [Option.some.injEq, Addr.mk.injEq, and_true] at hA
  obtain ⟨rfl, rfl⟩ := hA
  exact ⟨g, q, rfl, fun i hi => ⟨(World.cell?_of_block (w := w) (a := ⟨g, q + i * 4, none⟩) hb).trans (hall i hi).1, (World.cell?_of_block (w := w) (a := ⟨g, q + i * 4 + 1, none⟩) hb).trans (hall i hi).2.1, (World.cell?_of_block (w := w) (a := ⟨g, q + i * 4 + 2, none⟩) hb).trans (hall i hi).2.2.1, (World.cell?_of_block (w := w) (a := ⟨g, q + i * 4 + 3, none⟩) hb).trans (hall i hi).2.2.2⟩⟩
set_option maxHeartbeats 400000 in
theorem szHeatS_calls (A : Option Addr) (n c : Nat) (left : Int) (w : World) (hn : n ≤ maxLen) (h0 : 0 ≤ left) (h1 : left ≤ 4611686018427387904) :
    Calls Try.prog 14 #[.slice A n c, .int .i64 left] w fun e w' => e = .returned (.int .i64 (if left < n then -1 else left - n)) ∧ Below w.heap.size w w' := by
  unfold maxLen at hn
  by_cases h : left < n
  · rw [if_pos h]
    go_enter Try.func14, Try.ntmps14
    go_wp2
    go_ret
    exact ⟨rfl, Below.refl _ _⟩
  · rw [if_neg h]
    go_enter Try.func14, Try.ntmps14
    go_wp2
    go_ret
    exact ⟨rfl, Below.refl _ _⟩
theorem Heat_info : (Try.prog.info? 108).map (fun i => (i.zero, i.size, i.bytes)) = some (some (.agg #[.int .i64 0, .int .i64 0, .int .i64 0, .int .i64 0]), 4, 32) := by kernel_rfl
def HeatArr (arr : Array Value) (m : Nat) (a0 : Nat → Int) (a1 : Nat → Int) (a2 : Nat → Int) (a3 : Nat → Int) : Prop := ∀ i, i < m → arr[i * 4]? = some (.int .i64 (a0 i)) ∧ arr[i * 4 + 1]? = some (.int .i64 (a1 i)) ∧ arr[i * 4 + 2]? = some (.int .i64 (a2 i)) ∧ arr[i * 4 + 3]? = some (.int .i64 (a3 i))
theorem HeatArr.next {arr : Array Value} {n k : Nat} {a0 : Nat → Int} {a1 : Nat → Int} {a2 : Nat → Int} {a3 : Nat → Int} (h : HeatArr arr k a0 a1 a2 a3) (hs : arr.size = n * 4) (hk : k < n) : HeatArr ((((arr.setIfInBounds (k * 4) (.int .i64 (a0 k))).setIfInBounds (k * 4 + 1) (.int .i64 (a1 k))).setIfInBounds (k * 4 + 2) (.int .i64 (a2 k))).setIfInBounds (k * 4 + 3) (.int .i64 (a3 k))) (k + 1) a0 a1 a2 a3 := by
  intro i hi
  rcases Nat.lt_or_ge i k with h1 | h1
  · have h2 := h i h1
    refine ⟨?_, ?_, ?_, ?_⟩
    all_goals simp (disch := omega) only [Array.getElem?_setIfInBounds_ne]
    · exact h2.1
    · exact h2.2.1
    · exact h2.2.2.1
    · exact h2.2.2.2
  · obtain rfl : i = k := by omega
    refine ⟨?_, ?_, ?_, ?_⟩
    · rw [Array.getElem?_setIfInBounds_ne (by omega), Array.getElem?_setIfInBounds_ne (by omega), Array.getElem?_setIfInBounds_ne (by omega), Array.getElem?_setIfInBounds_self_of_lt (by (try simp); omega)]
    · rw [Array.getElem?_setIfInBounds_ne (by omega), Array.getElem?_setIfInBounds_ne (by omega), Array.getElem?_setIfInBounds_self_of_lt (by (try simp); omega)]
    · rw [Array.getElem?_setIfInBounds_ne (by omega), Array.getElem?_setIfInBounds_self_of_lt (by (try simp); omega)]
    · rw [Array.getElem?_setIfInBounds_self_of_lt (by (try simp); omega)]
theorem HeatArr.row {w : World} {g T n : Nat} {arr : Array Value} {a0 : Nat → Int} {a1 : Nat → Int} {a2 : Nat → Int} {a3 : Nat → Int} (h : HeatArr arr n a0 a1 a2 a3) (hb : Blk w g T arr) : HeatRow w (some ⟨g, 0, none⟩) n a0 a1 a2 a3 := fun _ =>
  ⟨g, 0, rfl, fun i hi => by
    have h2 := h i hi
    rw [Nat.zero_add]
    exact ⟨(hb.cell _).trans h2.1, (hb.cell _).trans h2.2.1, (hb.cell _).trans h2.2.2.1, (hb.cell _).trans h2.2.2.2⟩⟩
set_option maxHeartbeats 1000000 in
theorem toHeatS_calls (A : Option Addr) (n c : Nat) (a0 : Nat → Int) (a1 : Nat → Int) (a2 : Nat → Int) (a3 : Nat → Int) (w : World) (h : HeatRow w A n a0 a1 a2 a3) (hn : n ≤ 1048576) :
    Calls Try.prog 18 #[.slice A n c] w fun e w' => e = .returned (.slice (some ⟨w.heap.size, 0, none⟩) n n) ∧ Below w.heap.size w w' ∧ w.heap.size < w'.heap.size ∧ HeatRow w' (some ⟨w.heap.size, 0, none⟩) n a0 a1 a2 a3 := by
  obtain ⟨ie, hi, hz0, hz1, hz2⟩ := info_parts Heat_info
  have hmk := run_make_rowN (P := Try.prog) 33 108 ie _ Try.underlying33 hi hz0 .i64 .i64 n n (Nat.le_refl _) (by rw [hz2]; omega) (by omega) w
  rw [hz1] at hmk
  have hsz0 := madeCells_size (Value.cells (.agg #[.int .i64 0, .int .i64 0, .int .i64 0, .int .i64 0])) (n * 4)
  generalize madeCells (Value.cells (.agg #[.int .i64 0, .int .i64 0, .int .i64 0, .int .i64 0])) (n * 4) = arr0 at hmk hsz0
  have HSZ := Lib.hid hsz0
  have H := Lib.hid h
  clear h hsz0 hi hz0 hz1 hz2
  go_enter Try.func18, Try.ntmps18
  go_wp2
  clear hmk
  go_loopw [4] (fun i wr => ∃ (k : Nat) (arr : Array Value), k ≤ n ∧ i = .int .i64 k ∧ Hid (arr.size = n * 4) ∧ Hid (Blk wr w.heap.size 108 arr) ∧ Below w.heap.size w wr ∧ w.heap.size < wr.heap.size ∧ Hid (HeatArr arr k a0 a1 a2 a3)) (fun i _ => n - (intOf i).toNat)
  case atStart => exact ⟨0, arr0, by omega, rfl, HSZ, Blk.new w _ _, (Below.refl _ _).alloc (Nat.le_refl _) _, by simp, fun i hi => by omega⟩
  case round =>
    obtain ⟨k, arr, hk, rfl, hsz, hblk, hbr, hgt, hall⟩ := hrel
    by_cases hlt : k < n
    · obtain ⟨b, o, rfl, hrow⟩ := H.out (by omega)
      obtain ⟨c0, c1, c2, c3⟩ := (hrow k hlt).below hbr (Nat.le_refl _)
      have HR := Lib.hid hrow
      clear hrow
      obtain ⟨x0, hx0⟩ := arr_some (arr := arr) (j := k * 4) (by have := hsz.out; omega)
      obtain ⟨x1, hx1⟩ := arr_some (arr := arr) (j := k * 4 + 1) (by have := hsz.out; omega)
      obtain ⟨x2, hx2⟩ := arr_some (arr := arr) (j := k * 4 + 2) (by have := hsz.out; omega)
      obtain ⟨x3, hx3⟩ := arr_some (arr := arr) (j := k * 4 + 3) (by have := hsz.out; omega)
      have HX0 := Lib.hid hx0
      have HX1 := Lib.hid hx1
      have HX2 := Lib.hid hx2
      have HX3 := Lib.hid hx3
      clear hx0 hx1 hx2 hx3
      go_wp2_with (go_at_call 73; refine (toHeat_calls _ _ _ _ _).mono ?_; rintro e w1 ⟨rfl, hb⟩; have hblk1 : Blk w1 w.heap.size 108 arr := hblk.out.below hb hgt; have y0 := (Blk.cell hblk1 (k * 4)).trans HX0.out; have z0 := Blk.frozen hblk1 (k * 4); have y1 := (Blk.cell hblk1 (k * 4 + 1)).trans HX1.out; have z1 := Blk.frozen hblk1 (k * 4 + 1); have y2 := (Blk.cell hblk1 (k * 4 + 2)).trans HX2.out; have z2 := Blk.frozen hblk1 (k * 4 + 2); have y3 := (Blk.cell hblk1 (k * 4 + 3)).trans HX3.out; have z3 := Blk.frozen hblk1 (k * 4 + 3); have HB1 := Lib.hid hblk1; clear hblk1; have hbr2 : Below w.heap.size w w1 := hbr.trans (hb.mono hbr.size); have hgt2 := Nat.lt_of_lt_of_le hgt hb.size; clear hb)
      go_roundw
      case rel => exact ⟨k + 1, _, by omega, by go_num, by have := hsz.out; simpa [Hid] using this, ((((HB1.out.set_ (k * 4) _).set_ (k * 4 + 1) _).set_ (k * 4 + 2) _).set_ (k * 4 + 3) _), ((((hbr2.setCell (Nat.le_refl _) _).setCell (Nat.le_refl _) _).setCell (Nat.le_refl _) _).setCell (Nat.le_refl _) _), by simpa using hgt2, hall.out.next hsz.out hlt⟩
      case measure => simp [intOf]; omega
    · obtain rfl : k = n := by omega
      have hfin := Lib.hid (hall.out.row hblk.out)
      clear hall hblk hsz
      go_wp2
      go_ret
      exact ⟨rfl, hbr, hgt, hfin.out⟩
set_option maxHeartbeats 2000000 in
theorem eqHeatS_calls (A A2 : Option Addr) (n c c2 : Nat) (a0 : Nat → Int) (a1 : Nat → Int) (a2 : Nat → Int) (a3 : Nat → Int) (w : World) (h : HeatRow w A n a0 a1 a2 a3) (h2 : HeatRow w A2 n a0 a1 a2 a3) (hn : n ≤ 1048576) :
    Calls Try.prog 22 #[.slice A n c, .slice A2 n c2] w fun e w' => e = .returned (.bool true) ∧ Below w.heap.size w w' := by
  have H := Lib.hid h
  have H2 := Lib.hid h2
  clear h h2
  go_enter Try.func22, Try.ntmps22
  go_wp2
  go_loopw [5] (fun i wr => ∃ k : Nat, k ≤ n ∧ i = .int .i64 k ∧ Below w.heap.size w wr) (fun i _ => n - (intOf i).toNat)
  case atStart => exact ⟨0, by omega, rfl, Below.refl _ _⟩
  case round =>
    obtain ⟨k, hk, rfl, hbr⟩ := hrel
    by_cases hlt : k < n
    · obtain ⟨b, o, rfl, hrow⟩ := H.out (by omega)
      obtain ⟨b2, o2, rfl, hrow2⟩ := H2.out (by omega)
      have hbw := (hrow k hlt).lt
      have hbw2 := (hrow2 k hlt).lt
      obtain ⟨c0, c1, c2, c3⟩ := (hrow k hlt).below hbr (Nat.le_refl _)
      obtain ⟨g0, g1, g2, g3⟩ := (hrow2 k hlt).below hbr (Nat.le_refl _)
      have HR := Lib.hid hrow
      have HR2 := Lib.hid hrow2
      clear hrow hrow2
      go_wp2_with fail
      go_region_held3 (fun w' => Below w.heap.size w w' ∧ w'.cell? ⟨b, o + k * 4, none⟩ = some (.int .i64 (a0 k)) ∧ w'.cell? ⟨b, o + k * 4 + 1, none⟩ = some (.int .i64 (a1 k)) ∧ w'.cell? ⟨b, o + k * 4 + 2, none⟩ = some (.int .i64 (a2 k)) ∧ w'.cell? ⟨b, o + k * 4 + 3, none⟩ = some (.int .i64 (a3 k)) ∧ w'.cell? ⟨b2, o2 + k * 4, none⟩ = some (.int .i64 (a0 k)) ∧ w'.cell? ⟨b2, o2 + k * 4 + 1, none⟩ = some (.int .i64 (a1 k)) ∧ w'.cell? ⟨b2, o2 + k * 4 + 2, none⟩ = some (.int .i64 (a2 k)) ∧ w'.cell? ⟨b2, o2 + k * 4 + 3, none⟩ = some (.int .i64 (a3 k)))
        (first
          | exact ⟨hbr.drew, c0, c1, c2, c3, g0, g1, g2, g3⟩
          | assumption
          | (obtain ⟨q0, d0, d1, d2, d3, e0, e1, e2, e3⟩ := ‹Below _ _ _ ∧ _›; exact ⟨q0.trans (hb.mono q0.size), (hb.cell (p := ⟨_, _, none⟩) (Nat.lt_of_lt_of_le hbw q0.size)).trans d0, (hb.cell (p := ⟨_, _, none⟩) (Nat.lt_of_lt_of_le hbw q0.size)).trans d1, (hb.cell (p := ⟨_, _, none⟩) (Nat.lt_of_lt_of_le hbw q0.size)).trans d2, (hb.cell (p := ⟨_, _, none⟩) (Nat.lt_of_lt_of_le hbw q0.size)).trans d3, (hb.cell (p := ⟨_, _, none⟩) (Nat.lt_of_lt_of_le hbw2 q0.size)).trans e0, (hb.cell (p := ⟨_, _, none⟩) (Nat.lt_of_lt_of_le hbw2 q0.size)).trans e1, (hb.cell (p := ⟨_, _, none⟩) (Nat.lt_of_lt_of_le hbw2 q0.size)).trans e2, (hb.cell (p := ⟨_, _, none⟩) (Nat.lt_of_lt_of_le hbw2 q0.size)).trans e3⟩))
        (first
          | (go_at_call 79; refine (eqHeat_calls _ _ _ _ _).mono ?_; rintro e w1 ⟨rfl, hb⟩))
      all_goals
        have hbr2 := (‹Below _ _ _ ∧ _›).1
        go_wp2
        go_roundw
        case rel => exact ⟨k + 1, by omega, by go_num, hbr2⟩
        case measure => simp [intOf]; omega
    · obtain rfl : k = n := by omega
      go_wp2
      go_ret
      exact ⟨rfl, hbr⟩
open Go.ChangeShapes Go.WideShapes Go.Deep in
theorem openHeatS {H : Type} {enc : TypeId × Value → H} {w : World} {base : Nat} {spare : Nat → Bool} {held : Bool} {fuel : Nat} {A : Option Addr} {n c : Nat} {x : DataW H × List MemPlace} (h : DataW.trod enc Try.prog w base spare held fuel 24 [.slice A n c] = some x) :
    ∃ (a0 : Nat → Int) (a1 : Nat → Int) (a2 : Nat → Int) (a3 : Nat → Int), HeatRow w A n a0 a1 a2 a3 ∧ n ≤ maxLen ∧ (∀ i, i < n → (Lit.int .i64 (a0 i)).wf = true) ∧ (∀ i, i < n → (Lit.int .i64 (a1 i)).wf = true) ∧ (∀ i, i < n → (Lit.int .i64 (a2 i)).wf = true) ∧ (∀ i, i < n → (Lit.int .i64 (a3 i)).wf = true) := by
  rcases open_slice Try.underlying24 h with ⟨hcs, hx⟩ | ⟨a, len, cap, m, fu, D, Pl, hcs, hb, hl, hm, hmm, hx, hi⟩
  · simp only [List.cons.injEq, Value.slice.injEq, and_true] at hcs
    obtain ⟨rfl, rfl, rfl⟩ := hcs
    exact ⟨fun _ => 0, fun _ => 0, fun _ => 0, fun _ => 0, fun h0 => by omega, by unfold maxLen; omega, fun i h0 => by omega, fun i h0 => by omega, fun i h0 => by omega, fun i h0 => by omega⟩
  · simp only [List.cons.injEq, Value.slice.injEq, and_true] at hcs
    obtain ⟨rfl, rfl, rfl⟩ := hcs
    have hlm : n ≤ m := by rw [hmm]; split <;> omega
    have hC : Try.prog.cellsOf 110 = 4 := by kernel_rfl
    rw [hC] at hi
    have hall : ∀ i, ∃ t : Int × Int × Int × Int, i < n → HeatAt w a.block (a.off + i * 4) t.1 t.2.1 t.2.2.1 t.2.2.2 ∧ (Lit.int .i64 t.1).wf = true ∧ (Lit.int .i64 t.2.1).wf = true ∧ (Lit.int .i64 t.2.2.1).wf = true ∧ (Lit.int .i64 t.2.2.2).wf = true := by
      intro i
      by_cases hin : i < n
      · obtain ⟨cs, hc, ht⟩ := hi i (by omega)
        obtain ⟨-, hcl, hat⟩ := Go.World.cells?_some hc
        obtain ⟨hln, m2, hg⟩ := fields_of Try.underlying110 (by kernel_rfl) (by kernel_rfl) ht
        obtain ⟨v0, v1, v2, v3, rfl⟩ := list4 hln
        obtain ⟨y0, t0⟩ := hg 0 _ rfl v0 rfl
        have k0 := hat 0 (by omega)
        obtain ⟨x0, e0, _, q0⟩ := DataW.trod_int Try.underlying2 t0
        obtain rfl := one_cell e0
        obtain ⟨y1, t1⟩ := hg 1 _ rfl v1 rfl
        have k1 := hat 1 (by omega)
        obtain ⟨x1, e1, _, q1⟩ := DataW.trod_int Try.underlying2 t1
        obtain rfl := one_cell e1
        obtain ⟨y2, t2⟩ := hg 2 _ rfl v2 rfl
        have k2 := hat 2 (by omega)
        obtain ⟨x2, e2, _, q2⟩ := DataW.trod_int Try.underlying2 t2
        obtain rfl := one_cell e2
        obtain ⟨y3, t3⟩ := hg 3 _ rfl v3 rfl
        have k3 := hat 3 (by omega)
        obtain ⟨x3, e3, _, q3⟩ := DataW.trod_int Try.underlying2 t3
        obtain rfl := one_cell e3
        exact ⟨(x0, x1, x2, x3), fun _ => ⟨⟨cell_add2 k0 (by omega), cell_add2 k1 (by omega), cell_add2 k2 (by omega), cell_add2 k3 (by omega)⟩, q0, q1, q2, q3⟩⟩
      · exact ⟨(0, 0, 0, 0), fun h0 => absurd h0 hin⟩
    obtain ⟨F, hF⟩ := Classical.axiomOfChoice hall
    refine ⟨fun i => (F i).1, fun i => (F i).2.1, fun i => (F i).2.2.1, fun i => (F i).2.2.2, fun hn => ?_, by omega, fun i h0 => (hF i h0).2.1, fun i h0 => (hF i h0).2.2.1, fun i h0 => (hF i h0).2.2.2.1, fun i h0 => (hF i h0).2.2.2.2⟩
    refine ⟨a.block, a.off, ?_, fun i h0 => (hF i h0).1⟩
    obtain ⟨b, o, spot⟩ := a
    obtain ⟨cs, hc, ht⟩ := hi 0 (by omega)
    obtain ⟨-, hcl, hat⟩ := Go.World.cells?_some hc
    have k0 := hat 0 (by omega)
    rw [List.getElem?_eq_getElem (show 0 < cs.length by omega)] at k0
    have hspot : spot = none := by simpa [Addr.add] using Go.World.cell?_spot k0
    rw [hspot]
end Go.Proofs.Ytaanlkdpconfiaa
